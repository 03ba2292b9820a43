/- The code of the functions, in the form of our laws; each is the program's own, by the kernel. Written by a program of ours. -/
import Derived.Test.YtiomjlnojomneaaB0
import Derived.KernelRfl
namespace Go.Proofs.Ytiomjlnojomneaa
open Go.Abs

/-- laws.FnExactLastPaidRank -/
def C3 : CC :=
 (.seq (.ops [⟨some 4, none, .mv (.const (.bool false))⟩])
 (.seq (.ops [⟨some 5, none, .mv (.const (.int .i64 1048576))⟩])
 (.seq (.ops [⟨some 11, none, .mv (.tmp 0)⟩,
   ⟨some 12, none, .mv (.tmp 5)⟩,
   ⟨some 13, none, .call (.func 14) [(.tmp 11), (.tmp 12)]⟩,
   ⟨some 5, none, .mv (.tmp 13)⟩])
 (.seq (.seq (.ops [⟨some 14, none, .mv (.tmp 5)⟩,
    ⟨some 15, none, .bin .lss 0 (.tmp 14) (.const (.int .i64 0))⟩])
  (.cond (.tmp 15) (.seq (.ops [⟨some 4, none, .mv (.const (.bool true))⟩])
   .ret)
  .skip))
 (.seq (.ops [⟨some 17, none, .mv (.tmp 0)⟩,
   ⟨some 18, none, .call (.func 16) [(.tmp 17)]⟩,
   ⟨some 19, none, .mv (.tmp 1)⟩,
   ⟨some 20, none, .call (.func 15) [(.tmp 18), (.tmp 19)]⟩,
   ⟨some 16, none, .mv (.tmp 20)⟩,
   ⟨some 21, none, .ext (.tmp 16) 0⟩,
   ⟨some 22, none, .ext (.tmp 16) 1⟩,
   ⟨some 6, none, .mv (.tmp 21)⟩,
   ⟨some 7, none, .mv (.tmp 22)⟩])
 (.seq (.ops [⟨some 23, none, .mv (.tmp 0)⟩,
   ⟨some 24, none, .call (.func 16) [(.tmp 23)]⟩,
   ⟨some 8, none, .mv (.tmp 24)⟩])
 (.seq (.ops [⟨some 26, none, .mv (.tmp 8)⟩,
   ⟨some 27, none, .mv (.tmp 1)⟩,
   ⟨some 28, none, .call (.func 17) [(.tmp 26), (.tmp 27)]⟩,
   ⟨some 25, none, .mv (.tmp 28)⟩,
   ⟨some 29, none, .ext (.tmp 25) 0⟩,
   ⟨some 30, none, .ext (.tmp 25) 1⟩,
   ⟨some 9, none, .mv (.tmp 29)⟩,
   ⟨some 10, none, .mv (.tmp 30)⟩])
 (.seq (.seq (.ops [⟨some 31, none, .mv (.tmp 9)⟩,
    ⟨some 32, none, .mv (.tmp 6)⟩,
    ⟨some 33, none, .bin .neq 0 (.tmp 31) (.tmp 32)⟩,
    ⟨some 34, none, .mv (.tmp 33)⟩,
    ⟨some 35, some (34, false), .mv (.tmp 10)⟩,
    ⟨some 36, some (34, false), .mv (.tmp 7)⟩,
    ⟨some 37, some (34, false), .bin .neq 0 (.tmp 35) (.tmp 36)⟩,
    ⟨some 38, none, .pick (.tmp 34) (.const (.bool true)) (.tmp 37)⟩])
  (.cond (.tmp 38) (.seq (.ops [⟨some 4, none, .mv (.const (.bool false))⟩])
   .ret)
  .skip))
 (.seq (.seq (.ops [⟨some 39, none, .mv (.tmp 8)⟩,
    ⟨some 40, none, .mv (.tmp 0)⟩,
    ⟨some 41, none, .call (.func 16) [(.tmp 40)]⟩,
    ⟨some 42, none, .call (.func 18) [(.tmp 39), (.tmp 41)]⟩,
    ⟨some 43, none, .not (.tmp 42)⟩])
  (.cond (.tmp 43) (.seq (.ops [⟨some 4, none, .mv (.const (.bool false))⟩])
   .ret)
  .skip))
 (.seq (.ops [⟨some 4, none, .mv (.const (.bool true))⟩])
 .ret))))))))))
theorem C3_ok : Try.f3.body.bind (comp Try.prog) = some C3 := by kernel_rfl
theorem C3_res : compRs Try.prog Try.f3.results.toList = some [.tmp 4] := by kernel_rfl
theorem C3_nm : (Try.f3.name == "runtime.NumGoroutine") = false := by kernel_rfl
theorem C3_fn {a0 a1 : AV} {H : Heap} {Q : AV → Heap → Prop} (h : vc Try.prog C3 (vcEnd [.tmp 4] Q) H [a0, a1, .any, .any, .any, .any, .any, .any, .any, .any, .any, .any, .any, .any, .any, .any, .any, .any, .any, .any, .any, .any, .any, .any, .any, .any, .any, .any, .any, .any, .any, .any, .any, .any, .any, .any, .any, .any, .any, .any, .any, .any, .any, .any]) : Runs Try.prog 3 [a0, a1] H Q :=
  @fn_go Try.prog mixed 3 Try.f3 C3 [.tmp 4] Try.func3 C3_ok C3_res C3_nm 44 Try.ntmps3 [a0, a1] [a0, a1, .any, .any, .any, .any, .any, .any, .any, .any, .any, .any, .any, .any, .any, .any, .any, .any, .any, .any, .any, .any, .any, .any, .any, .any, .any, .any, .any, .any, .any, .any, .any, .any, .any, .any, .any, .any, .any, .any, .any, .any, .any, .any] H Q h 42 (by kernel_rfl) (by kernel_rfl)

/-- laws.szSecurity -/
def C72 : CC :=
 (.seq (.ops [⟨some 2, none, .box (.tmp 0)⟩,
   ⟨some 4, none, .mv (.const (.int .i64 0))⟩])
 (.seq (.ops [⟨some 5, none, .mv (.tmp 1)⟩,
   ⟨some 6, none, .fa 0 (.tmp 2)⟩,
   ⟨some 7, none, .load false 1 (.tmp 6)⟩,
   ⟨some 8, none, .len true (.tmp 7)⟩,
   ⟨some 9, none, .bin .sub 0 (.tmp 5) (.tmp 8)⟩,
   ⟨some 1, none, .mv (.tmp 9)⟩])
 (.seq (.seq (.ops [⟨some 10, none, .mv (.tmp 1)⟩,
    ⟨some 11, none, .bin .lss 0 (.tmp 10) (.const (.int .i64 0))⟩])
  (.cond (.tmp 11) (.seq (.ops [⟨some 4, none, .mv (.const (.int .i64 (-1)))⟩])
   .ret)
  .skip))
 (.seq (.ops [⟨some 12, none, .mv (.tmp 1)⟩,
   ⟨some 4, none, .mv (.tmp 12)⟩])
 .ret))))
theorem C72_ok : Try.f72.body.bind (comp Try.prog) = some C72 := by kernel_rfl
theorem C72_res : compRs Try.prog Try.f72.results.toList = some [.tmp 4] := by kernel_rfl
theorem C72_nm : (Try.f72.name == "runtime.NumGoroutine") = false := by kernel_rfl
theorem C72_fn {a0 a1 : AV} {H : Heap} {Q : AV → Heap → Prop} (h : vc Try.prog C72 (vcEnd [.tmp 4] Q) H [a0, a1, .any, .any, .any, .any, .any, .any, .any, .any, .any, .any, .any]) : Runs Try.prog 72 [a0, a1] H Q :=
  @fn_go Try.prog mixed 72 Try.f72 C72 [.tmp 4] Try.func72 C72_ok C72_res C72_nm 13 Try.ntmps72 [a0, a1] [a0, a1, .any, .any, .any, .any, .any, .any, .any, .any, .any, .any, .any] H Q h 11 (by kernel_rfl) (by kernel_rfl)

/-- laws.szSecurityS -/
def C19 : CC :=
 (.seq (.ops [⟨some 4, none, .mv (.const (.int .i64 0))⟩])
 (.seq (.ops [⟨some 6, none, .mv (.tmp 1)⟩,
   ⟨some 7, none, .mv (.tmp 0)⟩,
   ⟨some 8, none, .len false (.tmp 7)⟩,
   ⟨some 9, none, .bin .sub 0 (.tmp 6) (.tmp 8)⟩,
   ⟨some 1, none, .mv (.tmp 9)⟩])
 (.seq (.seq (.ops [⟨some 10, none, .mv (.tmp 1)⟩,
    ⟨some 11, none, .bin .lss 0 (.tmp 10) (.const (.int .i64 0))⟩])
  (.cond (.tmp 11) (.seq (.ops [⟨some 4, none, .mv (.const (.int .i64 (-1)))⟩])
   .ret)
  .skip))
 (.seq (.seq (.ops [⟨some 5, none, .mv (.const (.int .i64 0))⟩])
  (.block 0 (.loop (.seq (.seq (.ops [⟨some 12, none, .mv (.tmp 5)⟩,
       ⟨some 13, none, .mv (.tmp 0)⟩,
       ⟨some 14, none, .len false (.tmp 13)⟩,
       ⟨some 15, none, .bin .lss 0 (.tmp 12) (.tmp 14)⟩])
     (.cond (.tmp 15) .skip
     (.exit 0)))
    (.seq (.block 1 (.seq (.ops [⟨some 18, none, .mv (.tmp 0)⟩,
        ⟨some 19, none, .mv (.tmp 5)⟩,
        ⟨some 20, none, .ia 3 (.tmp 18) (.tmp 19)⟩,
        ⟨some 21, none, .load true 3 (.tmp 20)⟩,
        ⟨some 22, none, .mv (.tmp 1)⟩,
        ⟨some 23, none, .call (.func 72) [(.tmp 21), (.tmp 22)]⟩,
        ⟨some 1, none, .mv (.tmp 23)⟩])
      (.seq (.ops [⟨some 24, none, .mv (.tmp 1)⟩,
        ⟨some 25, none, .bin .lss 0 (.tmp 24) (.const (.int .i64 0))⟩])
      (.cond (.tmp 25) (.seq (.ops [⟨some 4, none, .mv (.const (.int .i64 (-1)))⟩])
       .ret)
      .skip))))
    (.ops [⟨some 16, none, .mv (.tmp 5)⟩,
     ⟨some 17, none, .bin .add 0 (.tmp 16) (.const (.int .i64 1))⟩,
     ⟨some 5, none, .mv (.tmp 17)⟩]))))))
 (.seq (.ops [⟨some 26, none, .mv (.tmp 1)⟩,
   ⟨some 4, none, .mv (.tmp 26)⟩])
 .ret)))))
theorem C19_ok : Try.f19.body.bind (comp Try.prog) = some C19 := by kernel_rfl
theorem C19_res : compRs Try.prog Try.f19.results.toList = some [.tmp 4] := by kernel_rfl
theorem C19_nm : (Try.f19.name == "runtime.NumGoroutine") = false := by kernel_rfl
theorem C19_fn {a0 a1 : AV} {H : Heap} {Q : AV → Heap → Prop} (h : vc Try.prog C19 (vcEnd [.tmp 4] Q) H [a0, a1, .any, .any, .any, .any, .any, .any, .any, .any, .any, .any, .any, .any, .any, .any, .any, .any, .any, .any, .any, .any, .any, .any, .any, .any, .any]) : Runs Try.prog 19 [a0, a1] H Q :=
  @fn_go Try.prog mixed 19 Try.f19 C19 [.tmp 4] Try.func19 C19_ok C19_res C19_nm 27 Try.ntmps19 [a0, a1] [a0, a1, .any, .any, .any, .any, .any, .any, .any, .any, .any, .any, .any, .any, .any, .any, .any, .any, .any, .any, .any, .any, .any, .any, .any, .any, .any] H Q h 25 (by kernel_rfl) (by kernel_rfl)

/-- spec.AreSecurities -/
def C73 : CC :=
 (.seq (.ops [⟨some 2, none, .mv (.const (.bool false))⟩])
 (.seq (.seq (.ops [⟨some 3, none, .mv (.const (.int .i64 0))⟩])
  (.block 0 (.loop (.seq (.seq (.ops [⟨some 5, none, .mv (.tmp 3)⟩,
       ⟨some 6, none, .mv (.tmp 0)⟩,
       ⟨some 7, none, .len false (.tmp 6)⟩,
       ⟨some 8, none, .bin .lss 0 (.tmp 5) (.tmp 7)⟩])
     (.cond (.tmp 8) .skip
     (.exit 0)))
    (.seq (.block 1 (.seq (.ops [⟨some 11, none, .mv (.tmp 0)⟩,
        ⟨some 12, none, .mv (.tmp 3)⟩,
        ⟨some 13, none, .ia 3 (.tmp 11) (.tmp 12)⟩,
        ⟨some 14, none, .load true 3 (.tmp 13)⟩,
        ⟨some 4, none, .alloc [.string ⟨#[]⟩, .int .i64 0, .int .i64 0]⟩,
        ⟨none, none, .store 3 (.tmp 4) (.tmp 14)⟩])
      (.seq (.ops [⟨some 15, none, .fa 0 (.tmp 4)⟩,
        ⟨some 16, none, .load false 1 (.tmp 15)⟩,
        ⟨some 17, none, .call (.func 124) [(.tmp 16)]⟩,
        ⟨some 18, none, .not (.tmp 17)⟩,
        ⟨some 19, none, .mv (.tmp 18)⟩,
        ⟨some 20, some (19, false), .fa 1 (.tmp 4)⟩,
        ⟨some 21, some (19, false), .load false 1 (.tmp 20)⟩,
        ⟨some 22, some (19, false), .call (.func 74) [(.tmp 21), (.const (.int .i64 0)), (.const (.int .i64 2))]⟩,
        ⟨some 23, some (19, false), .not (.tmp 22)⟩,
        ⟨some 24, none, .pick (.tmp 19) (.const (.bool true)) (.tmp 23)⟩,
        ⟨some 25, none, .mv (.tmp 24)⟩,
        ⟨some 26, some (25, false), .fa 2 (.tmp 4)⟩,
        ⟨some 27, some (25, false), .load false 1 (.tmp 26)⟩,
        ⟨some 28, some (25, false), .call (.func 87) [(.tmp 27)]⟩,
        ⟨some 29, some (25, false), .not (.tmp 28)⟩,
        ⟨some 30, none, .pick (.tmp 25) (.const (.bool true)) (.tmp 29)⟩])
      (.cond (.tmp 30) (.seq (.ops [⟨some 2, none, .mv (.const (.bool false))⟩])
       .ret)
      .skip))))
    (.ops [⟨some 9, none, .mv (.tmp 3)⟩,
     ⟨some 10, none, .bin .add 0 (.tmp 9) (.const (.int .i64 1))⟩,
     ⟨some 3, none, .mv (.tmp 10)⟩]))))))
 (.seq (.ops [⟨some 31, none, .mv (.tmp 0)⟩,
   ⟨some 32, none, .len false (.tmp 31)⟩,
   ⟨some 33, none, .bin .leq 0 (.tmp 32) (.const (.int .i64 15))⟩,
   ⟨some 2, none, .mv (.tmp 33)⟩])
 .ret)))
theorem C73_ok : Try.f73.body.bind (comp Try.prog) = some C73 := by kernel_rfl
theorem C73_res : compRs Try.prog Try.f73.results.toList = some [.tmp 2] := by kernel_rfl
theorem C73_nm : (Try.f73.name == "runtime.NumGoroutine") = false := by kernel_rfl
theorem C73_fn {a0 : AV} {H : Heap} {Q : AV → Heap → Prop} (h : vc Try.prog C73 (vcEnd [.tmp 2] Q) H [a0, .any, .any, .any, .any, .any, .any, .any, .any, .any, .any, .any, .any, .any, .any, .any, .any, .any, .any, .any, .any, .any, .any, .any, .any, .any, .any, .any, .any, .any, .any, .any, .any, .any]) : Runs Try.prog 73 [a0] H Q :=
  @fn_go Try.prog mixed 73 Try.f73 C73 [.tmp 2] Try.func73 C73_ok C73_res C73_nm 34 Try.ntmps73 [a0] [a0, .any, .any, .any, .any, .any, .any, .any, .any, .any, .any, .any, .any, .any, .any, .any, .any, .any, .any, .any, .any, .any, .any, .any, .any, .any, .any, .any, .any, .any, .any, .any, .any, .any] H Q h 33 (by kernel_rfl) (by kernel_rfl)

/-- spec.RemainingSecurities -/
def C20 : CC :=
 (.seq (.ops [⟨some 4, none, .mv (.const (.slice none 0 0))⟩,
   ⟨some 5, none, .mv (.const (.int .i64 0))⟩])
 (.seq (.seq (.ops [⟨some 9, none, .mv (.tmp 0)⟩,
    ⟨some 10, none, .call (.func 73) [(.tmp 9)]⟩,
    ⟨some 11, none, .not (.tmp 10)⟩])
  (.cond (.tmp 11) (.seq (.ops [⟨some 4, none, .mv (.const (.slice none 0 0))⟩,
     ⟨some 5, none, .mv (.const (.int .i64 1))⟩])
   .ret)
  .skip))
 (.seq (.seq (.ops [⟨some 12, none, .mv (.tmp 1)⟩,
    ⟨some 13, none, .len false (.tmp 12)⟩,
    ⟨some 14, none, .mv (.tmp 0)⟩,
    ⟨some 15, none, .len false (.tmp 14)⟩,
    ⟨some 16, none, .bin .neq 0 (.tmp 13) (.tmp 15)⟩])
  (.cond (.tmp 16) (.seq (.ops [⟨some 4, none, .mv (.const (.slice none 0 0))⟩,
     ⟨some 5, none, .mv (.const (.int .i64 2))⟩])
   .ret)
  .skip))
 (.seq (.ops [⟨some 17, none, .lit 3 []⟩,
   ⟨some 6, none, .mv (.tmp 17)⟩])
 (.seq (.seq (.ops [⟨some 7, none, .mv (.const (.int .i64 0))⟩])
  (.block 0 (.loop (.seq (.seq (.ops [⟨some 18, none, .mv (.tmp 7)⟩,
       ⟨some 19, none, .mv (.tmp 0)⟩,
       ⟨some 20, none, .len false (.tmp 19)⟩,
       ⟨some 21, none, .bin .lss 0 (.tmp 18) (.tmp 20)⟩])
     (.cond (.tmp 21) .skip
     (.exit 0)))
    (.seq (.block 1 (.seq (.ops [⟨some 24, none, .mv (.tmp 0)⟩,
        ⟨some 25, none, .mv (.tmp 7)⟩,
        ⟨some 26, none, .ia 3 (.tmp 24) (.tmp 25)⟩,
        ⟨some 27, none, .load true 3 (.tmp 26)⟩,
        ⟨some 8, none, .alloc [.string ⟨#[]⟩, .int .i64 0, .int .i64 0]⟩,
        ⟨none, none, .store 3 (.tmp 8) (.tmp 27)⟩])
      (.seq (.seq (.draw 8 [⟨some 28, none, .mv (.tmp 1)⟩,
         ⟨some 29, none, .mv (.tmp 7)⟩,
         ⟨some 30, none, .ia 1 (.tmp 28) (.tmp 29)⟩,
         ⟨some 31, none, .load false 1 (.tmp 30)⟩,
         ⟨some 32, none, .fa 2 (.tmp 8)⟩,
         ⟨some 33, none, .load false 1 (.tmp 32)⟩,
         ⟨some 34, none, .call (.func 74) [(.tmp 31), (.const (.int .i64 0)), (.tmp 33)]⟩,
         ⟨some 35, none, .not (.tmp 34)⟩])
       (.cond (.tmp 35) (.seq (.ops [⟨some 4, none, .mv (.const (.slice none 0 0))⟩,
          ⟨some 5, none, .mv (.const (.int .i64 2))⟩])
        .ret)
       .skip))
      (.seq (.draw 7 [⟨some 36, none, .fa 2 (.tmp 8)⟩,
        ⟨some 37, none, .load false 1 (.tmp 36)⟩,
        ⟨some 38, none, .mv (.tmp 1)⟩,
        ⟨some 39, none, .mv (.tmp 7)⟩,
        ⟨some 40, none, .ia 1 (.tmp 38) (.tmp 39)⟩,
        ⟨some 41, none, .load false 1 (.tmp 40)⟩,
        ⟨some 42, none, .bin .sub 0 (.tmp 37) (.tmp 41)⟩,
        ⟨some 43, none, .fa 2 (.tmp 8)⟩,
        ⟨none, none, .store 1 (.tmp 43) (.tmp 42)⟩])
      (.seq (.ops [⟨some 44, none, .fa 2 (.tmp 8)⟩,
        ⟨some 45, none, .load false 1 (.tmp 44)⟩,
        ⟨some 46, none, .bin .gtr 0 (.tmp 45) (.const (.int .i64 0))⟩])
      (.cond (.tmp 46) (.ops [⟨some 47, none, .mv (.tmp 6)⟩,
        ⟨some 48, none, .load true 3 (.tmp 8)⟩,
        ⟨some 49, none, .lit 3 [(.tmp 48)]⟩,
        ⟨some 50, none, .app 3 32 (.tmp 47) (.tmp 49)⟩,
        ⟨some 6, none, .mv (.tmp 50)⟩])
      .skip))))))
    (.ops [⟨some 22, none, .mv (.tmp 7)⟩,
     ⟨some 23, none, .bin .add 0 (.tmp 22) (.const (.int .i64 1))⟩,
     ⟨some 7, none, .mv (.tmp 23)⟩]))))))
 (.seq (.ops [⟨some 51, none, .mv (.tmp 6)⟩,
   ⟨some 4, none, .mv (.tmp 51)⟩,
   ⟨some 5, none, .mv (.const (.int .i64 0))⟩])
 .ret))))))
theorem C20_ok : Try.f20.body.bind (comp Try.prog) = some C20 := by kernel_rfl
theorem C20_res : compRs Try.prog Try.f20.results.toList = some [.tmp 4, .tmp 5] := by kernel_rfl
theorem C20_nm : (Try.f20.name == "runtime.NumGoroutine") = false := by kernel_rfl
theorem C20_fn {a0 a1 : AV} {H : Heap} {Q : AV → Heap → Prop} (h : vc Try.prog C20 (vcEnd [.tmp 4, .tmp 5] Q) H [a0, a1, .any, .any, .any, .any, .any, .any, .any, .any, .any, .any, .any, .any, .any, .any, .any, .any, .any, .any, .any, .any, .any, .any, .any, .any, .any, .any, .any, .any, .any, .any, .any, .any, .any, .any, .any, .any, .any, .any, .any, .any, .any, .any, .any, .any, .any, .any, .any, .any, .any, .any]) : Runs Try.prog 20 [a0, a1] H Q :=
  @fn_go Try.prog mixed 20 Try.f20 C20 [.tmp 4, .tmp 5] Try.func20 C20_ok C20_res C20_nm 52 Try.ntmps20 [a0, a1] [a0, a1, .any, .any, .any, .any, .any, .any, .any, .any, .any, .any, .any, .any, .any, .any, .any, .any, .any, .any, .any, .any, .any, .any, .any, .any, .any, .any, .any, .any, .any, .any, .any, .any, .any, .any, .any, .any, .any, .any, .any, .any, .any, .any, .any, .any, .any, .any, .any, .any, .any, .any] H Q h 50 (by kernel_rfl) (by kernel_rfl)

/-- laws.toSecurity -/
def C75 : CC :=
 (.seq (.ops [⟨some 1, none, .box (.tmp 0)⟩,
   ⟨some 2, none, .alloc [.string ⟨#[]⟩, .int .i64 0, .int .i64 0]⟩])
 (.seq (.ops [⟨some 3, none, .alloc [.string ⟨#[]⟩, .int .i64 0, .int .i64 0]⟩])
 (.seq (.ops [⟨some 4, none, .fa 0 (.tmp 1)⟩,
   ⟨some 5, none, .load false 1 (.tmp 4)⟩,
   ⟨some 6, none, .fa 0 (.tmp 3)⟩,
   ⟨none, none, .store 1 (.tmp 6) (.tmp 5)⟩])
 (.seq (.ops [⟨some 7, none, .fa 1 (.tmp 1)⟩,
   ⟨some 8, none, .load false 1 (.tmp 7)⟩,
   ⟨some 9, none, .fa 1 (.tmp 3)⟩,
   ⟨none, none, .store 1 (.tmp 9) (.tmp 8)⟩])
 (.seq (.ops [⟨some 10, none, .fa 2 (.tmp 1)⟩,
   ⟨some 11, none, .load false 1 (.tmp 10)⟩,
   ⟨some 12, none, .fa 2 (.tmp 3)⟩,
   ⟨none, none, .store 1 (.tmp 12) (.tmp 11)⟩])
 (.seq (.ops [⟨some 13, none, .load true 3 (.tmp 3)⟩,
   ⟨none, none, .store 3 (.tmp 2) (.tmp 13)⟩])
 .ret))))))
theorem C75_ok : Try.f75.body.bind (comp Try.prog) = some C75 := by kernel_rfl
theorem C75_res : compRs Try.prog Try.f75.results.toList = some [.cell true 3 2] := by kernel_rfl
theorem C75_nm : (Try.f75.name == "runtime.NumGoroutine") = false := by kernel_rfl
theorem C75_fn {a0 : AV} {H : Heap} {Q : AV → Heap → Prop} (h : vc Try.prog C75 (vcEnd [.cell true 3 2] Q) H [a0, .any, .any, .any, .any, .any, .any, .any, .any, .any, .any, .any, .any, .any]) : Runs Try.prog 75 [a0] H Q :=
  @fn_go Try.prog mixed 75 Try.f75 C75 [.cell true 3 2] Try.func75 C75_ok C75_res C75_nm 14 Try.ntmps75 [a0] [a0, .any, .any, .any, .any, .any, .any, .any, .any, .any, .any, .any, .any, .any] H Q h 13 (by kernel_rfl) (by kernel_rfl)

/-- laws.toSecurityS -/
def C21 : CC :=
 (.seq (.ops [⟨some 2, none, .mv (.const (.slice none 0 0))⟩])
 (.seq (.ops [⟨some 5, none, .mv (.tmp 0)⟩,
   ⟨some 6, none, .len false (.tmp 5)⟩,
   ⟨some 7, none, .mks [.string ⟨#[]⟩, .int .i64 0, .int .i64 0] 32 (.tmp 6)⟩,
   ⟨some 3, none, .mv (.tmp 7)⟩])
 (.seq (.seq (.ops [⟨some 4, none, .mv (.const (.int .i64 0))⟩])
  (.block 0 (.loop (.seq (.seq (.ops [⟨some 8, none, .mv (.tmp 4)⟩,
       ⟨some 9, none, .mv (.tmp 0)⟩,
       ⟨some 10, none, .len false (.tmp 9)⟩,
       ⟨some 11, none, .bin .lss 0 (.tmp 8) (.tmp 10)⟩])
     (.cond (.tmp 11) .skip
     (.exit 0)))
    (.seq (.block 1 (.ops [⟨some 14, none, .mv (.tmp 3)⟩,
       ⟨some 15, none, .mv (.tmp 4)⟩,
       ⟨some 16, none, .mv (.tmp 0)⟩,
       ⟨some 17, none, .mv (.tmp 4)⟩,
       ⟨some 18, none, .ia 3 (.tmp 16) (.tmp 17)⟩,
       ⟨some 19, none, .load true 3 (.tmp 18)⟩,
       ⟨some 20, none, .call (.func 75) [(.tmp 19)]⟩,
       ⟨some 21, none, .ia 3 (.tmp 14) (.tmp 15)⟩,
       ⟨none, none, .store 3 (.tmp 21) (.tmp 20)⟩]))
    (.ops [⟨some 12, none, .mv (.tmp 4)⟩,
     ⟨some 13, none, .bin .add 0 (.tmp 12) (.const (.int .i64 1))⟩,
     ⟨some 4, none, .mv (.tmp 13)⟩]))))))
 (.seq (.ops [⟨some 22, none, .mv (.tmp 3)⟩,
   ⟨some 2, none, .mv (.tmp 22)⟩])
 .ret))))
theorem C21_ok : Try.f21.body.bind (comp Try.prog) = some C21 := by kernel_rfl
theorem C21_res : compRs Try.prog Try.f21.results.toList = some [.tmp 2] := by kernel_rfl
theorem C21_nm : (Try.f21.name == "runtime.NumGoroutine") = false := by kernel_rfl
theorem C21_fn {a0 : AV} {H : Heap} {Q : AV → Heap → Prop} (h : vc Try.prog C21 (vcEnd [.tmp 2] Q) H [a0, .any, .any, .any, .any, .any, .any, .any, .any, .any, .any, .any, .any, .any, .any, .any, .any, .any, .any, .any, .any, .any, .any]) : Runs Try.prog 21 [a0] H Q :=
  @fn_go Try.prog mixed 21 Try.f21 C21 [.tmp 2] Try.func21 C21_ok C21_res C21_nm 23 Try.ntmps21 [a0] [a0, .any, .any, .any, .any, .any, .any, .any, .any, .any, .any, .any, .any, .any, .any, .any, .any, .any, .any, .any, .any, .any, .any] H Q h 22 (by kernel_rfl) (by kernel_rfl)

/-- laws.toInt64S -/
def C22 : CC :=
 (.seq (.ops [⟨some 2, none, .mv (.const (.slice none 0 0))⟩])
 (.seq (.ops [⟨some 5, none, .mv (.tmp 0)⟩,
   ⟨some 6, none, .len false (.tmp 5)⟩,
   ⟨some 7, none, .mks [.int .i64 0] 8 (.tmp 6)⟩,
   ⟨some 3, none, .mv (.tmp 7)⟩])
 (.seq (.seq (.ops [⟨some 4, none, .mv (.const (.int .i64 0))⟩])
  (.block 0 (.loop (.seq (.seq (.ops [⟨some 8, none, .mv (.tmp 4)⟩,
       ⟨some 9, none, .mv (.tmp 0)⟩,
       ⟨some 10, none, .len false (.tmp 9)⟩,
       ⟨some 11, none, .bin .lss 0 (.tmp 8) (.tmp 10)⟩])
     (.cond (.tmp 11) .skip
     (.exit 0)))
    (.seq (.block 1 (.ops [⟨some 14, none, .mv (.tmp 3)⟩,
       ⟨some 15, none, .mv (.tmp 4)⟩,
       ⟨some 16, none, .mv (.tmp 0)⟩,
       ⟨some 17, none, .mv (.tmp 4)⟩,
       ⟨some 18, none, .ia 1 (.tmp 16) (.tmp 17)⟩,
       ⟨some 19, none, .load false 1 (.tmp 18)⟩,
       ⟨some 20, none, .ia 1 (.tmp 14) (.tmp 15)⟩,
       ⟨none, none, .store 1 (.tmp 20) (.tmp 19)⟩]))
    (.ops [⟨some 12, none, .mv (.tmp 4)⟩,
     ⟨some 13, none, .bin .add 0 (.tmp 12) (.const (.int .i64 1))⟩,
     ⟨some 4, none, .mv (.tmp 13)⟩]))))))
 (.seq (.ops [⟨some 21, none, .mv (.tmp 3)⟩,
   ⟨some 2, none, .mv (.tmp 21)⟩])
 .ret))))
theorem C22_ok : Try.f22.body.bind (comp Try.prog) = some C22 := by kernel_rfl
theorem C22_res : compRs Try.prog Try.f22.results.toList = some [.tmp 2] := by kernel_rfl
theorem C22_nm : (Try.f22.name == "runtime.NumGoroutine") = false := by kernel_rfl
theorem C22_fn {a0 : AV} {H : Heap} {Q : AV → Heap → Prop} (h : vc Try.prog C22 (vcEnd [.tmp 2] Q) H [a0, .any, .any, .any, .any, .any, .any, .any, .any, .any, .any, .any, .any, .any, .any, .any, .any, .any, .any, .any, .any, .any]) : Runs Try.prog 22 [a0] H Q :=
  @fn_go Try.prog mixed 22 Try.f22 C22 [.tmp 2] Try.func22 C22_ok C22_res C22_nm 22 Try.ntmps22 [a0] [a0, .any, .any, .any, .any, .any, .any, .any, .any, .any, .any, .any, .any, .any, .any, .any, .any, .any, .any, .any, .any, .any] H Q h 21 (by kernel_rfl) (by kernel_rfl)

/-- slices.IndexFunc[[]impl.Security,impl.Security] -/
def C169 : CC :=
 (.seq (.ops [⟨some 4, none, .mv (.const (.int .i64 0))⟩])
 (.seq (.seq (.ops [⟨some 6, none, .mv (.tmp 0)⟩,
    ⟨some 7, none, .len false (.tmp 6)⟩,
    ⟨some 8, none, .mv (.const (.int .i64 0))⟩])
  (.block 0 (.loop (.seq (.ops [⟨some 9, none, .bin .lss 0 (.tmp 8) (.tmp 7)⟩])
    (.seq (.cond (.tmp 9) .skip
     (.exit 0))
    (.seq (.block 1 (.seq (.ops [⟨some 10, none, .mv (.tmp 8)⟩,
        ⟨some 5, none, .mv (.tmp 10)⟩])
      (.seq (.ops [⟨some 11, none, .mv (.tmp 1)⟩,
        ⟨some 12, none, .mv (.tmp 0)⟩,
        ⟨some 13, none, .mv (.tmp 5)⟩,
        ⟨some 14, none, .ia 3 (.tmp 12) (.tmp 13)⟩,
        ⟨some 15, none, .load true 3 (.tmp 14)⟩,
        ⟨some 16, none, .call (.tmp 11) [(.tmp 15)]⟩])
      (.cond (.tmp 16) (.seq (.ops [⟨some 17, none, .mv (.tmp 5)⟩,
         ⟨some 4, none, .mv (.tmp 17)⟩])
       .ret)
      .skip))))
    (.ops [⟨some 18, none, .bin .add 0 (.tmp 8) (.const (.int .i64 1))⟩,
     ⟨some 8, none, .mv (.tmp 18)⟩])))))))
 (.seq (.ops [⟨some 4, none, .mv (.const (.int .i64 (-1)))⟩])
 .ret)))
theorem C169_ok : Try.f169.body.bind (comp Try.prog) = some C169 := by kernel_rfl
theorem C169_res : compRs Try.prog Try.f169.results.toList = some [.tmp 4] := by kernel_rfl
theorem C169_nm : (Try.f169.name == "runtime.NumGoroutine") = false := by kernel_rfl
theorem C169_fn {a0 a1 : AV} {H : Heap} {Q : AV → Heap → Prop} (h : vc Try.prog C169 (vcEnd [.tmp 4] Q) H [a0, a1, .any, .any, .any, .any, .any, .any, .any, .any, .any, .any, .any, .any, .any, .any, .any, .any, .any]) : Runs Try.prog 169 [a0, a1] H Q :=
  @fn_go Try.prog mixed 169 Try.f169 C169 [.tmp 4] Try.func169 C169_ok C169_res C169_nm 19 Try.ntmps169 [a0, a1] [a0, a1, .any, .any, .any, .any, .any, .any, .any, .any, .any, .any, .any, .any, .any, .any, .any, .any, .any] H Q h 17 (by kernel_rfl) (by kernel_rfl)

/-- slices.ContainsFunc[[]impl.Security,impl.Security] -/
def C149 : CC :=
 (.seq (.ops [⟨some 4, none, .mv (.const (.bool false))⟩])
 (.seq (.ops [⟨some 5, none, .mv (.tmp 0)⟩,
   ⟨some 6, none, .mv (.tmp 1)⟩,
   ⟨some 7, none, .call (.func 169) [(.tmp 5), (.tmp 6)]⟩,
   ⟨some 8, none, .bin .geq 0 (.tmp 7) (.const (.int .i64 0))⟩,
   ⟨some 4, none, .mv (.tmp 8)⟩])
 .ret))
theorem C149_ok : Try.f149.body.bind (comp Try.prog) = some C149 := by kernel_rfl
theorem C149_res : compRs Try.prog Try.f149.results.toList = some [.tmp 4] := by kernel_rfl
theorem C149_nm : (Try.f149.name == "runtime.NumGoroutine") = false := by kernel_rfl
theorem C149_fn {a0 a1 : AV} {H : Heap} {Q : AV → Heap → Prop} (h : vc Try.prog C149 (vcEnd [.tmp 4] Q) H [a0, a1, .any, .any, .any, .any, .any, .any, .any]) : Runs Try.prog 149 [a0, a1] H Q :=
  @fn_go Try.prog mixed 149 Try.f149 C149 [.tmp 4] Try.func149 C149_ok C149_res C149_nm 9 Try.ntmps149 [a0, a1] [a0, a1, .any, .any, .any, .any, .any, .any, .any] H Q h 7 (by kernel_rfl) (by kernel_rfl)

/-- impl.all[impl.Security]$1 -/
def C150 : CC :=
 (.seq (.ops [⟨some 2, none, .box (.tmp 0)⟩,
   ⟨some 3, none, .mv (.const (.bool false))⟩])
 (.seq (.ops [⟨some 4, none, .load false 1 (.tmp 1)⟩,
   ⟨some 5, none, .load true 3 (.tmp 2)⟩,
   ⟨some 6, none, .call (.tmp 4) [(.tmp 5)]⟩,
   ⟨some 7, none, .not (.tmp 6)⟩,
   ⟨some 3, none, .mv (.tmp 7)⟩])
 .ret))
theorem C150_ok : Try.f150.body.bind (comp Try.prog) = some C150 := by kernel_rfl
theorem C150_res : compRs Try.prog Try.f150.results.toList = some [.tmp 3] := by kernel_rfl
theorem C150_nm : (Try.f150.name == "runtime.NumGoroutine") = false := by kernel_rfl
theorem C150_fn {a0 a1 : AV} {H : Heap} {Q : AV → Heap → Prop} (h : vc Try.prog C150 (vcEnd [.tmp 3] Q) H [a0, a1, .any, .any, .any, .any, .any, .any]) : Runs Try.prog 150 [a0, a1] H Q :=
  @fn_go Try.prog mixed 150 Try.f150 C150 [.tmp 3] Try.func150 C150_ok C150_res C150_nm 8 Try.ntmps150 [a0, a1] [a0, a1, .any, .any, .any, .any, .any, .any] H Q h 6 (by kernel_rfl) (by kernel_rfl)

/-- impl.all[impl.Security] -/
def C125 : CC :=
 (.seq (.ops [⟨some 3, none, .box (.tmp 1)⟩,
   ⟨some 4, none, .mv (.const (.bool false))⟩])
 (.seq (.ops [⟨some 5, none, .mv (.tmp 0)⟩,
   ⟨some 6, none, .mkf 150 [(.tmp 3)]⟩,
   ⟨some 7, none, .call (.func 149) [(.tmp 5), (.tmp 6)]⟩,
   ⟨some 8, none, .not (.tmp 7)⟩,
   ⟨some 4, none, .mv (.tmp 8)⟩])
 .ret))
theorem C125_ok : Try.f125.body.bind (comp Try.prog) = some C125 := by kernel_rfl
theorem C125_res : compRs Try.prog Try.f125.results.toList = some [.tmp 4] := by kernel_rfl
theorem C125_nm : (Try.f125.name == "runtime.NumGoroutine") = false := by kernel_rfl
theorem C125_fn {a0 a1 : AV} {H : Heap} {Q : AV → Heap → Prop} (h : vc Try.prog C125 (vcEnd [.tmp 4] Q) H [a0, a1, .any, .any, .any, .any, .any, .any, .any]) : Runs Try.prog 125 [a0, a1] H Q :=
  @fn_go Try.prog mixed 125 Try.f125 C125 [.tmp 4] Try.func125 C125_ok C125_res C125_nm 9 Try.ntmps125 [a0, a1] [a0, a1, .any, .any, .any, .any, .any, .any, .any] H Q h 7 (by kernel_rfl) (by kernel_rfl)

/-- impl.AreSecurities$1 -/
def C126 : CC :=
 (.seq (.ops [⟨some 1, none, .box (.tmp 0)⟩,
   ⟨some 2, none, .mv (.const (.bool false))⟩])
 (.seq (.ops [⟨some 3, none, .fa 0 (.tmp 1)⟩,
   ⟨some 4, none, .load false 1 (.tmp 3)⟩,
   ⟨some 5, none, .call (.func 127) [(.tmp 4)]⟩,
   ⟨some 6, none, .mv (.tmp 5)⟩,
   ⟨some 7, some (6, true), .fa 1 (.tmp 1)⟩,
   ⟨some 8, some (6, true), .load false 1 (.tmp 7)⟩,
   ⟨some 9, some (6, true), .call (.func 77) [(.tmp 8), (.const (.int .i64 0)), (.const (.int .i64 2))]⟩,
   ⟨some 10, none, .pick (.tmp 6) (.tmp 9) (.const (.bool false))⟩,
   ⟨some 11, none, .mv (.tmp 10)⟩,
   ⟨some 12, some (11, true), .fa 2 (.tmp 1)⟩,
   ⟨some 13, some (11, true), .load false 1 (.tmp 12)⟩,
   ⟨some 14, some (11, true), .call (.func 89) [(.tmp 13)]⟩,
   ⟨some 15, none, .pick (.tmp 11) (.tmp 14) (.const (.bool false))⟩,
   ⟨some 2, none, .mv (.tmp 15)⟩])
 .ret))
theorem C126_ok : Try.f126.body.bind (comp Try.prog) = some C126 := by kernel_rfl
theorem C126_res : compRs Try.prog Try.f126.results.toList = some [.tmp 2] := by kernel_rfl
theorem C126_nm : (Try.f126.name == "runtime.NumGoroutine") = false := by kernel_rfl
theorem C126_fn {a0 : AV} {H : Heap} {Q : AV → Heap → Prop} (h : vc Try.prog C126 (vcEnd [.tmp 2] Q) H [a0, .any, .any, .any, .any, .any, .any, .any, .any, .any, .any, .any, .any, .any, .any, .any]) : Runs Try.prog 126 [a0] H Q :=
  @fn_go Try.prog mixed 126 Try.f126 C126 [.tmp 2] Try.func126 C126_ok C126_res C126_nm 16 Try.ntmps126 [a0] [a0, .any, .any, .any, .any, .any, .any, .any, .any, .any, .any, .any, .any, .any, .any, .any] H Q h 15 (by kernel_rfl) (by kernel_rfl)

/-- impl.AreSecurities -/
def C76 : CC :=
 (.seq (.ops [⟨some 2, none, .mv (.const (.bool false))⟩])
 (.seq (.ops [⟨some 3, none, .mv (.tmp 0)⟩,
   ⟨some 4, none, .len false (.tmp 3)⟩,
   ⟨some 5, none, .bin .leq 0 (.tmp 4) (.const (.int .i64 15))⟩,
   ⟨some 6, none, .mv (.tmp 5)⟩,
   ⟨some 7, some (6, true), .mv (.tmp 0)⟩,
   ⟨some 8, some (6, true), .call (.func 125) [(.tmp 7), (.func 126)]⟩,
   ⟨some 9, none, .pick (.tmp 6) (.tmp 8) (.const (.bool false))⟩,
   ⟨some 2, none, .mv (.tmp 9)⟩])
 .ret))
theorem C76_ok : Try.f76.body.bind (comp Try.prog) = some C76 := by kernel_rfl
theorem C76_res : compRs Try.prog Try.f76.results.toList = some [.tmp 2] := by kernel_rfl
theorem C76_nm : (Try.f76.name == "runtime.NumGoroutine") = false := by kernel_rfl
theorem C76_fn {a0 : AV} {H : Heap} {Q : AV → Heap → Prop} (h : vc Try.prog C76 (vcEnd [.tmp 2] Q) H [a0, .any, .any, .any, .any, .any, .any, .any, .any, .any]) : Runs Try.prog 76 [a0] H Q :=
  @fn_go Try.prog mixed 76 Try.f76 C76 [.tmp 2] Try.func76 C76_ok C76_res C76_nm 10 Try.ntmps76 [a0] [a0, .any, .any, .any, .any, .any, .any, .any, .any, .any] H Q h 9 (by kernel_rfl) (by kernel_rfl)

/-- impl.RemainingSecurities -/
def C23 : CC :=
 (.seq (.ops [⟨some 4, none, .mv (.const (.slice none 0 0))⟩,
   ⟨some 5, none, .mv (.const (.int .i64 0))⟩])
 (.seq (.block 0 (.seq (.ops [⟨some 10, none, .mv (.tmp 0)⟩,
     ⟨some 11, none, .call (.func 76) [(.tmp 10)]⟩,
     ⟨some 12, none, .not (.tmp 11)⟩,
     ⟨some 9, none, .mv (.tmp 12)⟩])
   (.cond (.tmp 9) (.seq (.ops [⟨some 4, none, .mv (.const (.slice none 0 0))⟩,
      ⟨some 5, none, .mv (.const (.int .i64 1))⟩])
    .ret)
   (.seq (.ops [⟨some 14, none, .mv (.tmp 1)⟩,
      ⟨some 15, none, .len false (.tmp 14)⟩,
      ⟨some 16, none, .mv (.tmp 0)⟩,
      ⟨some 17, none, .len false (.tmp 16)⟩,
      ⟨some 18, none, .bin .neq 0 (.tmp 15) (.tmp 17)⟩,
      ⟨some 13, none, .mv (.tmp 18)⟩])
    (.cond (.tmp 13) (.seq (.ops [⟨some 4, none, .mv (.const (.slice none 0 0))⟩,
       ⟨some 5, none, .mv (.const (.int .i64 2))⟩])
     .ret)
    .skip)))))
 (.seq (.ops [⟨some 19, none, .lit 3 []⟩,
   ⟨some 6, none, .mv (.tmp 19)⟩])
 (.seq (.seq (.ops [⟨some 20, none, .mv (.tmp 0)⟩,
    ⟨some 21, none, .len false (.tmp 20)⟩,
    ⟨some 22, none, .mv (.const (.int .i64 0))⟩])
  (.block 1 (.loop (.seq (.ops [⟨some 23, none, .bin .lss 0 (.tmp 22) (.tmp 21)⟩])
    (.seq (.cond (.tmp 23) .skip
     (.exit 1))
    (.seq (.block 2 (.seq (.ops [⟨some 24, none, .mv (.tmp 22)⟩,
        ⟨some 25, none, .ia 3 (.tmp 20) (.tmp 22)⟩,
        ⟨some 26, none, .load true 3 (.tmp 25)⟩,
        ⟨some 8, none, .alloc [.string ⟨#[]⟩, .int .i64 0, .int .i64 0]⟩,
        ⟨some 7, none, .mv (.tmp 24)⟩,
        ⟨none, none, .store 3 (.tmp 8) (.tmp 26)⟩])
      (.seq (.seq (.draw 8 [⟨some 27, none, .mv (.tmp 1)⟩,
         ⟨some 28, none, .mv (.tmp 7)⟩,
         ⟨some 29, none, .ia 1 (.tmp 27) (.tmp 28)⟩,
         ⟨some 30, none, .load false 1 (.tmp 29)⟩,
         ⟨some 31, none, .fa 2 (.tmp 8)⟩,
         ⟨some 32, none, .load false 1 (.tmp 31)⟩,
         ⟨some 33, none, .call (.func 77) [(.tmp 30), (.const (.int .i64 0)), (.tmp 32)]⟩,
         ⟨some 34, none, .not (.tmp 33)⟩])
       (.cond (.tmp 34) (.seq (.ops [⟨some 4, none, .mv (.const (.slice none 0 0))⟩,
          ⟨some 5, none, .mv (.const (.int .i64 2))⟩])
        .ret)
       .skip))
      (.seq (.draw 7 [⟨some 35, none, .fa 2 (.tmp 8)⟩,
        ⟨some 36, none, .load false 1 (.tmp 35)⟩,
        ⟨some 37, none, .mv (.tmp 1)⟩,
        ⟨some 38, none, .mv (.tmp 7)⟩,
        ⟨some 39, none, .ia 1 (.tmp 37) (.tmp 38)⟩,
        ⟨some 40, none, .load false 1 (.tmp 39)⟩,
        ⟨some 41, none, .bin .sub 0 (.tmp 36) (.tmp 40)⟩,
        ⟨some 42, none, .fa 2 (.tmp 8)⟩,
        ⟨none, none, .store 1 (.tmp 42) (.tmp 41)⟩])
      (.seq (.ops [⟨some 43, none, .fa 2 (.tmp 8)⟩,
        ⟨some 44, none, .load false 1 (.tmp 43)⟩,
        ⟨some 45, none, .bin .gtr 0 (.tmp 44) (.const (.int .i64 0))⟩])
      (.cond (.tmp 45) (.ops [⟨some 46, none, .mv (.tmp 6)⟩,
        ⟨some 47, none, .load true 3 (.tmp 8)⟩,
        ⟨some 48, none, .lit 3 [(.tmp 47)]⟩,
        ⟨some 49, none, .app 3 32 (.tmp 46) (.tmp 48)⟩,
        ⟨some 6, none, .mv (.tmp 49)⟩])
      .skip))))))
    (.ops [⟨some 50, none, .bin .add 0 (.tmp 22) (.const (.int .i64 1))⟩,
     ⟨some 22, none, .mv (.tmp 50)⟩])))))))
 (.seq (.ops [⟨some 51, none, .mv (.tmp 6)⟩,
   ⟨some 4, none, .mv (.tmp 51)⟩,
   ⟨some 5, none, .mv (.const (.int .i64 0))⟩])
 .ret)))))
theorem C23_ok : Try.f23.body.bind (comp Try.prog) = some C23 := by kernel_rfl
theorem C23_res : compRs Try.prog Try.f23.results.toList = some [.tmp 4, .tmp 5] := by kernel_rfl
theorem C23_nm : (Try.f23.name == "runtime.NumGoroutine") = false := by kernel_rfl
theorem C23_fn {a0 a1 : AV} {H : Heap} {Q : AV → Heap → Prop} (h : vc Try.prog C23 (vcEnd [.tmp 4, .tmp 5] Q) H [a0, a1, .any, .any, .any, .any, .any, .any, .any, .any, .any, .any, .any, .any, .any, .any, .any, .any, .any, .any, .any, .any, .any, .any, .any, .any, .any, .any, .any, .any, .any, .any, .any, .any, .any, .any, .any, .any, .any, .any, .any, .any, .any, .any, .any, .any, .any, .any, .any, .any, .any, .any]) : Runs Try.prog 23 [a0, a1] H Q :=
  @fn_go Try.prog mixed 23 Try.f23 C23 [.tmp 4, .tmp 5] Try.func23 C23_ok C23_res C23_nm 52 Try.ntmps23 [a0, a1] [a0, a1, .any, .any, .any, .any, .any, .any, .any, .any, .any, .any, .any, .any, .any, .any, .any, .any, .any, .any, .any, .any, .any, .any, .any, .any, .any, .any, .any, .any, .any, .any, .any, .any, .any, .any, .any, .any, .any, .any, .any, .any, .any, .any, .any, .any, .any, .any, .any, .any, .any, .any] H Q h 50 (by kernel_rfl) (by kernel_rfl)

/-- laws.eqSecurity -/
def C78 : CC :=
 (.seq (.ops [⟨some 2, none, .box (.tmp 0)⟩,
   ⟨some 3, none, .box (.tmp 1)⟩,
   ⟨some 4, none, .mv (.const (.bool false))⟩])
 (.seq (.seq (.ops [⟨some 5, none, .fa 0 (.tmp 2)⟩,
    ⟨some 6, none, .load false 1 (.tmp 5)⟩,
    ⟨some 7, none, .fa 0 (.tmp 3)⟩,
    ⟨some 8, none, .load false 1 (.tmp 7)⟩,
    ⟨some 9, none, .bin .neq 0 (.tmp 6) (.tmp 8)⟩])
  (.cond (.tmp 9) (.seq (.ops [⟨some 4, none, .mv (.const (.bool false))⟩])
   .ret)
  .skip))
 (.seq (.seq (.ops [⟨some 10, none, .fa 1 (.tmp 2)⟩,
    ⟨some 11, none, .load false 1 (.tmp 10)⟩,
    ⟨some 12, none, .fa 1 (.tmp 3)⟩,
    ⟨some 13, none, .load false 1 (.tmp 12)⟩,
    ⟨some 14, none, .bin .neq 0 (.tmp 11) (.tmp 13)⟩])
  (.cond (.tmp 14) (.seq (.ops [⟨some 4, none, .mv (.const (.bool false))⟩])
   .ret)
  .skip))
 (.seq (.seq (.ops [⟨some 15, none, .fa 2 (.tmp 2)⟩,
    ⟨some 16, none, .load false 1 (.tmp 15)⟩,
    ⟨some 17, none, .fa 2 (.tmp 3)⟩,
    ⟨some 18, none, .load false 1 (.tmp 17)⟩,
    ⟨some 19, none, .bin .neq 0 (.tmp 16) (.tmp 18)⟩])
  (.cond (.tmp 19) (.seq (.ops [⟨some 4, none, .mv (.const (.bool false))⟩])
   .ret)
  .skip))
 (.seq (.ops [⟨some 4, none, .mv (.const (.bool true))⟩])
 .ret)))))
theorem C78_ok : Try.f78.body.bind (comp Try.prog) = some C78 := by kernel_rfl
theorem C78_res : compRs Try.prog Try.f78.results.toList = some [.tmp 4] := by kernel_rfl
theorem C78_nm : (Try.f78.name == "runtime.NumGoroutine") = false := by kernel_rfl
theorem C78_fn {a0 a1 : AV} {H : Heap} {Q : AV → Heap → Prop} (h : vc Try.prog C78 (vcEnd [.tmp 4] Q) H [a0, a1, .any, .any, .any, .any, .any, .any, .any, .any, .any, .any, .any, .any, .any, .any, .any, .any, .any, .any]) : Runs Try.prog 78 [a0, a1] H Q :=
  @fn_go Try.prog mixed 78 Try.f78 C78 [.tmp 4] Try.func78 C78_ok C78_res C78_nm 20 Try.ntmps78 [a0, a1] [a0, a1, .any, .any, .any, .any, .any, .any, .any, .any, .any, .any, .any, .any, .any, .any, .any, .any, .any, .any] H Q h 18 (by kernel_rfl) (by kernel_rfl)

/-- laws.eqSecurityS -/
def C24 : CC :=
 (.seq (.ops [⟨some 4, none, .mv (.const (.bool false))⟩])
 (.seq (.seq (.ops [⟨some 6, none, .mv (.tmp 0)⟩,
    ⟨some 7, none, .len false (.tmp 6)⟩,
    ⟨some 8, none, .mv (.tmp 1)⟩,
    ⟨some 9, none, .len false (.tmp 8)⟩,
    ⟨some 10, none, .bin .neq 0 (.tmp 7) (.tmp 9)⟩])
  (.cond (.tmp 10) (.seq (.ops [⟨some 4, none, .mv (.const (.bool false))⟩])
   .ret)
  .skip))
 (.seq (.seq (.ops [⟨some 5, none, .mv (.const (.int .i64 0))⟩])
  (.block 0 (.loop (.seq (.seq (.ops [⟨some 11, none, .mv (.tmp 5)⟩,
       ⟨some 12, none, .mv (.tmp 0)⟩,
       ⟨some 13, none, .len false (.tmp 12)⟩,
       ⟨some 14, none, .bin .lss 0 (.tmp 11) (.tmp 13)⟩])
     (.cond (.tmp 14) .skip
     (.exit 0)))
    (.seq (.block 1 (.seq (.draw 10 [⟨some 17, none, .mv (.tmp 0)⟩,
        ⟨some 18, none, .mv (.tmp 5)⟩,
        ⟨some 19, none, .ia 3 (.tmp 17) (.tmp 18)⟩,
        ⟨some 20, none, .load true 3 (.tmp 19)⟩,
        ⟨some 21, none, .mv (.tmp 1)⟩,
        ⟨some 22, none, .mv (.tmp 5)⟩,
        ⟨some 23, none, .ia 3 (.tmp 21) (.tmp 22)⟩,
        ⟨some 24, none, .load true 3 (.tmp 23)⟩,
        ⟨some 25, none, .call (.func 78) [(.tmp 20), (.tmp 24)]⟩,
        ⟨some 26, none, .not (.tmp 25)⟩])
      (.cond (.tmp 26) (.seq (.ops [⟨some 4, none, .mv (.const (.bool false))⟩])
       .ret)
      .skip)))
    (.ops [⟨some 15, none, .mv (.tmp 5)⟩,
     ⟨some 16, none, .bin .add 0 (.tmp 15) (.const (.int .i64 1))⟩,
     ⟨some 5, none, .mv (.tmp 16)⟩]))))))
 (.seq (.ops [⟨some 4, none, .mv (.const (.bool true))⟩])
 .ret))))
theorem C24_ok : Try.f24.body.bind (comp Try.prog) = some C24 := by kernel_rfl
theorem C24_res : compRs Try.prog Try.f24.results.toList = some [.tmp 4] := by kernel_rfl
theorem C24_nm : (Try.f24.name == "runtime.NumGoroutine") = false := by kernel_rfl
theorem C24_fn {a0 a1 : AV} {H : Heap} {Q : AV → Heap → Prop} (h : vc Try.prog C24 (vcEnd [.tmp 4] Q) H [a0, a1, .any, .any, .any, .any, .any, .any, .any, .any, .any, .any, .any, .any, .any, .any, .any, .any, .any, .any, .any, .any, .any, .any, .any, .any, .any]) : Runs Try.prog 24 [a0, a1] H Q :=
  @fn_go Try.prog mixed 24 Try.f24 C24 [.tmp 4] Try.func24 C24_ok C24_res C24_nm 27 Try.ntmps24 [a0, a1] [a0, a1, .any, .any, .any, .any, .any, .any, .any, .any, .any, .any, .any, .any, .any, .any, .any, .any, .any, .any, .any, .any, .any, .any, .any, .any, .any] H Q h 25 (by kernel_rfl) (by kernel_rfl)

/-- laws.eqInt64S -/
def C25 : CC :=
 (.seq (.ops [⟨some 4, none, .mv (.const (.bool false))⟩])
 (.seq (.seq (.ops [⟨some 6, none, .mv (.tmp 0)⟩,
    ⟨some 7, none, .len false (.tmp 6)⟩,
    ⟨some 8, none, .mv (.tmp 1)⟩,
    ⟨some 9, none, .len false (.tmp 8)⟩,
    ⟨some 10, none, .bin .neq 0 (.tmp 7) (.tmp 9)⟩])
  (.cond (.tmp 10) (.seq (.ops [⟨some 4, none, .mv (.const (.bool false))⟩])
   .ret)
  .skip))
 (.seq (.seq (.ops [⟨some 5, none, .mv (.const (.int .i64 0))⟩])
  (.block 0 (.loop (.seq (.seq (.ops [⟨some 11, none, .mv (.tmp 5)⟩,
       ⟨some 12, none, .mv (.tmp 0)⟩,
       ⟨some 13, none, .len false (.tmp 12)⟩,
       ⟨some 14, none, .bin .lss 0 (.tmp 11) (.tmp 13)⟩])
     (.cond (.tmp 14) .skip
     (.exit 0)))
    (.seq (.block 1 (.seq (.draw 9 [⟨some 17, none, .mv (.tmp 0)⟩,
        ⟨some 18, none, .mv (.tmp 5)⟩,
        ⟨some 19, none, .ia 1 (.tmp 17) (.tmp 18)⟩,
        ⟨some 20, none, .load false 1 (.tmp 19)⟩,
        ⟨some 21, none, .mv (.tmp 1)⟩,
        ⟨some 22, none, .mv (.tmp 5)⟩,
        ⟨some 23, none, .ia 1 (.tmp 21) (.tmp 22)⟩,
        ⟨some 24, none, .load false 1 (.tmp 23)⟩,
        ⟨some 25, none, .bin .neq 0 (.tmp 20) (.tmp 24)⟩])
      (.cond (.tmp 25) (.seq (.ops [⟨some 4, none, .mv (.const (.bool false))⟩])
       .ret)
      .skip)))
    (.ops [⟨some 15, none, .mv (.tmp 5)⟩,
     ⟨some 16, none, .bin .add 0 (.tmp 15) (.const (.int .i64 1))⟩,
     ⟨some 5, none, .mv (.tmp 16)⟩]))))))
 (.seq (.ops [⟨some 4, none, .mv (.const (.bool true))⟩])
 .ret))))
theorem C25_ok : Try.f25.body.bind (comp Try.prog) = some C25 := by kernel_rfl
theorem C25_res : compRs Try.prog Try.f25.results.toList = some [.tmp 4] := by kernel_rfl
theorem C25_nm : (Try.f25.name == "runtime.NumGoroutine") = false := by kernel_rfl
theorem C25_fn {a0 a1 : AV} {H : Heap} {Q : AV → Heap → Prop} (h : vc Try.prog C25 (vcEnd [.tmp 4] Q) H [a0, a1, .any, .any, .any, .any, .any, .any, .any, .any, .any, .any, .any, .any, .any, .any, .any, .any, .any, .any, .any, .any, .any, .any, .any, .any]) : Runs Try.prog 25 [a0, a1] H Q :=
  @fn_go Try.prog mixed 25 Try.f25 C25 [.tmp 4] Try.func25 C25_ok C25_res C25_nm 26 Try.ntmps25 [a0, a1] [a0, a1, .any, .any, .any, .any, .any, .any, .any, .any, .any, .any, .any, .any, .any, .any, .any, .any, .any, .any, .any, .any, .any, .any, .any, .any] H Q h 24 (by kernel_rfl) (by kernel_rfl)

/-- laws.markText -/
def C79 : CC :=
 (.seq (.ops [⟨some 2, none, .mv (.const (.string ⟨#[]⟩))⟩])
 (.seq (.seq (.ops [⟨some 4, none, .mv (.tmp 0)⟩,
    ⟨some 5, none, .bin .leq 0 (.tmp 4) (.const (.int .i64 0))⟩])
  (.cond (.tmp 5) (.seq (.ops [⟨some 2, none, .mv (.const (.string ⟨#[109, 48]⟩))⟩])
   .ret)
  .skip))
 (.seq (.ops [⟨some 3, none, .mv (.const (.string ⟨#[]⟩))⟩])
 (.seq (.block 0 (.loop (.seq (.seq (.ops [⟨some 6, none, .mv (.tmp 0)⟩,
       ⟨some 7, none, .bin .gtr 0 (.tmp 6) (.const (.int .i64 0))⟩])
     (.cond (.tmp 7) .skip
     (.exit 0)))
    (.block 1 (.seq (.ops [⟨some 8, none, .mv (.tmp 0)⟩,
       ⟨some 9, none, .bin .rem 0 (.tmp 8) (.const (.int .i64 10))⟩,
       ⟨some 10, none, .bin .add 0 (.const (.int .i64 48)) (.tmp 9)⟩,
       ⟨some 11, none, .conv .u8 (.tmp 10)⟩,
       ⟨some 12, none, .lit 1 [(.tmp 11)]⟩,
       ⟨some 13, none, .bstr (.tmp 12)⟩,
       ⟨some 14, none, .mv (.tmp 3)⟩,
       ⟨some 15, none, .bin .add 0 (.tmp 13) (.tmp 14)⟩,
       ⟨some 3, none, .mv (.tmp 15)⟩])
     (.ops [⟨some 16, none, .mv (.tmp 0)⟩,
      ⟨some 17, none, .bin .quo 0 (.tmp 16) (.const (.int .i64 10))⟩,
      ⟨some 0, none, .mv (.tmp 17)⟩]))))))
 (.seq (.ops [⟨some 18, none, .mv (.tmp 3)⟩,
   ⟨some 19, none, .bin .add 0 (.const (.string ⟨#[109]⟩)) (.tmp 18)⟩,
   ⟨some 2, none, .mv (.tmp 19)⟩])
 .ret)))))
theorem C79_ok : Try.f79.body.bind (comp Try.prog) = some C79 := by kernel_rfl
theorem C79_res : compRs Try.prog Try.f79.results.toList = some [.tmp 2] := by kernel_rfl
theorem C79_nm : (Try.f79.name == "runtime.NumGoroutine") = false := by kernel_rfl
theorem C79_fn {a0 : AV} {H : Heap} {Q : AV → Heap → Prop} (h : vc Try.prog C79 (vcEnd [.tmp 2] Q) H [a0, .any, .any, .any, .any, .any, .any, .any, .any, .any, .any, .any, .any, .any, .any, .any, .any, .any, .any, .any]) : Runs Try.prog 79 [a0] H Q :=
  @fn_go Try.prog mixed 79 Try.f79 C79 [.tmp 2] Try.func79 C79_ok C79_res C79_nm 20 Try.ntmps79 [a0] [a0, .any, .any, .any, .any, .any, .any, .any, .any, .any, .any, .any, .any, .any, .any, .any, .any, .any, .any, .any] H Q h 19 (by kernel_rfl) (by kernel_rfl)

/-- laws.markSecurityS -/
def C26 : CC :=
 (.seq (.ops [⟨some 4, none, .mv (.const (.int .i64 0))⟩])
 (.seq (.seq (.ops [⟨some 5, none, .mv (.const (.int .i64 0))⟩])
  (.block 0 (.loop (.seq (.seq (.ops [⟨some 6, none, .mv (.tmp 5)⟩,
       ⟨some 7, none, .mv (.tmp 0)⟩,
       ⟨some 8, none, .len false (.tmp 7)⟩,
       ⟨some 9, none, .bin .lss 0 (.tmp 6) (.tmp 8)⟩])
     (.cond (.tmp 9) .skip
     (.exit 0)))
    (.seq (.block 1 (.seq (.ops [⟨some 12, none, .mv (.tmp 0)⟩,
        ⟨some 13, none, .mv (.tmp 5)⟩,
        ⟨some 14, none, .mv (.tmp 1)⟩,
        ⟨some 15, none, .call (.func 79) [(.tmp 14)]⟩,
        ⟨some 16, none, .ia 3 (.tmp 12) (.tmp 13)⟩,
        ⟨some 17, none, .fa 0 (.tmp 16)⟩,
        ⟨none, none, .store 1 (.tmp 17) (.tmp 15)⟩])
      (.seq (.ops [⟨some 18, none, .mv (.tmp 1)⟩,
        ⟨some 19, none, .bin .add 0 (.tmp 18) (.const (.int .i64 1))⟩,
        ⟨some 1, none, .mv (.tmp 19)⟩])
      (.seq (.ops [⟨some 20, none, .mv (.tmp 0)⟩,
        ⟨some 21, none, .mv (.tmp 5)⟩,
        ⟨some 22, none, .mv (.tmp 1)⟩,
        ⟨some 23, none, .ia 3 (.tmp 20) (.tmp 21)⟩,
        ⟨some 24, none, .fa 1 (.tmp 23)⟩,
        ⟨none, none, .store 1 (.tmp 24) (.tmp 22)⟩])
      (.seq (.ops [⟨some 25, none, .mv (.tmp 1)⟩,
        ⟨some 26, none, .bin .add 0 (.tmp 25) (.const (.int .i64 1))⟩,
        ⟨some 1, none, .mv (.tmp 26)⟩])
      (.seq (.ops [⟨some 27, none, .mv (.tmp 0)⟩,
        ⟨some 28, none, .mv (.tmp 5)⟩,
        ⟨some 29, none, .mv (.tmp 1)⟩,
        ⟨some 30, none, .ia 3 (.tmp 27) (.tmp 28)⟩,
        ⟨some 31, none, .fa 2 (.tmp 30)⟩,
        ⟨none, none, .store 1 (.tmp 31) (.tmp 29)⟩])
      (.ops [⟨some 32, none, .mv (.tmp 1)⟩,
       ⟨some 33, none, .bin .add 0 (.tmp 32) (.const (.int .i64 1))⟩,
       ⟨some 1, none, .mv (.tmp 33)⟩])))))))
    (.ops [⟨some 10, none, .mv (.tmp 5)⟩,
     ⟨some 11, none, .bin .add 0 (.tmp 10) (.const (.int .i64 1))⟩,
     ⟨some 5, none, .mv (.tmp 11)⟩]))))))
 (.seq (.ops [⟨some 34, none, .mv (.tmp 1)⟩,
   ⟨some 4, none, .mv (.tmp 34)⟩])
 .ret)))
theorem C26_ok : Try.f26.body.bind (comp Try.prog) = some C26 := by kernel_rfl
theorem C26_res : compRs Try.prog Try.f26.results.toList = some [.tmp 4] := by kernel_rfl
theorem C26_nm : (Try.f26.name == "runtime.NumGoroutine") = false := by kernel_rfl
theorem C26_fn {a0 a1 : AV} {H : Heap} {Q : AV → Heap → Prop} (h : vc Try.prog C26 (vcEnd [.tmp 4] Q) H [a0, a1, .any, .any, .any, .any, .any, .any, .any, .any, .any, .any, .any, .any, .any, .any, .any, .any, .any, .any, .any, .any, .any, .any, .any, .any, .any, .any, .any, .any, .any, .any, .any, .any, .any]) : Runs Try.prog 26 [a0, a1] H Q :=
  @fn_go Try.prog mixed 26 Try.f26 C26 [.tmp 4] Try.func26 C26_ok C26_res C26_nm 35 Try.ntmps26 [a0, a1] [a0, a1, .any, .any, .any, .any, .any, .any, .any, .any, .any, .any, .any, .any, .any, .any, .any, .any, .any, .any, .any, .any, .any, .any, .any, .any, .any, .any, .any, .any, .any, .any, .any, .any, .any] H Q h 33 (by kernel_rfl) (by kernel_rfl)

/-- laws.markInt64S -/
def C27 : CC :=
 (.seq (.ops [⟨some 4, none, .mv (.const (.int .i64 0))⟩])
 (.seq (.seq (.ops [⟨some 5, none, .mv (.const (.int .i64 0))⟩])
  (.block 0 (.loop (.seq (.seq (.ops [⟨some 6, none, .mv (.tmp 5)⟩,
       ⟨some 7, none, .mv (.tmp 0)⟩,
       ⟨some 8, none, .len false (.tmp 7)⟩,
       ⟨some 9, none, .bin .lss 0 (.tmp 6) (.tmp 8)⟩])
     (.cond (.tmp 9) .skip
     (.exit 0)))
    (.seq (.block 1 (.seq (.ops [⟨some 12, none, .mv (.tmp 0)⟩,
        ⟨some 13, none, .mv (.tmp 5)⟩,
        ⟨some 14, none, .mv (.tmp 1)⟩,
        ⟨some 15, none, .ia 1 (.tmp 12) (.tmp 13)⟩,
        ⟨none, none, .store 1 (.tmp 15) (.tmp 14)⟩])
      (.ops [⟨some 16, none, .mv (.tmp 1)⟩,
       ⟨some 17, none, .bin .add 0 (.tmp 16) (.const (.int .i64 1))⟩,
       ⟨some 1, none, .mv (.tmp 17)⟩])))
    (.ops [⟨some 10, none, .mv (.tmp 5)⟩,
     ⟨some 11, none, .bin .add 0 (.tmp 10) (.const (.int .i64 1))⟩,
     ⟨some 5, none, .mv (.tmp 11)⟩]))))))
 (.seq (.ops [⟨some 18, none, .mv (.tmp 1)⟩,
   ⟨some 4, none, .mv (.tmp 18)⟩])
 .ret)))
theorem C27_ok : Try.f27.body.bind (comp Try.prog) = some C27 := by kernel_rfl
theorem C27_res : compRs Try.prog Try.f27.results.toList = some [.tmp 4] := by kernel_rfl
theorem C27_nm : (Try.f27.name == "runtime.NumGoroutine") = false := by kernel_rfl
theorem C27_fn {a0 a1 : AV} {H : Heap} {Q : AV → Heap → Prop} (h : vc Try.prog C27 (vcEnd [.tmp 4] Q) H [a0, a1, .any, .any, .any, .any, .any, .any, .any, .any, .any, .any, .any, .any, .any, .any, .any, .any, .any]) : Runs Try.prog 27 [a0, a1] H Q :=
  @fn_go Try.prog mixed 27 Try.f27 C27 [.tmp 4] Try.func27 C27_ok C27_res C27_nm 19 Try.ntmps27 [a0, a1] [a0, a1, .any, .any, .any, .any, .any, .any, .any, .any, .any, .any, .any, .any, .any, .any, .any, .any, .any] H Q h 17 (by kernel_rfl) (by kernel_rfl)

/-- laws.heldSecurityS -/
def C28 : CC :=
 (.seq (.ops [⟨some 4, none, .mv (.const (.int .i64 0))⟩])
 (.seq (.seq (.ops [⟨some 5, none, .mv (.const (.int .i64 0))⟩])
  (.block 0 (.loop (.seq (.seq (.ops [⟨some 6, none, .mv (.tmp 5)⟩,
       ⟨some 7, none, .mv (.tmp 0)⟩,
       ⟨some 8, none, .len false (.tmp 7)⟩,
       ⟨some 9, none, .bin .lss 0 (.tmp 6) (.tmp 8)⟩])
     (.cond (.tmp 9) .skip
     (.exit 0)))
    (.seq (.block 1 (.seq (.seq (.draw 8 [⟨some 12, none, .mv (.tmp 0)⟩,
         ⟨some 13, none, .mv (.tmp 5)⟩,
         ⟨some 14, none, .ia 3 (.tmp 12) (.tmp 13)⟩,
         ⟨some 15, none, .fa 0 (.tmp 14)⟩,
         ⟨some 16, none, .load false 1 (.tmp 15)⟩,
         ⟨some 17, none, .mv (.tmp 1)⟩,
         ⟨some 18, none, .call (.func 79) [(.tmp 17)]⟩,
         ⟨some 19, none, .bin .neq 0 (.tmp 16) (.tmp 18)⟩])
       (.cond (.tmp 19) (.seq (.ops [⟨some 4, none, .mv (.const (.int .i64 (-1)))⟩])
        .ret)
       .skip))
      (.seq (.ops [⟨some 20, none, .mv (.tmp 1)⟩,
        ⟨some 21, none, .bin .add 0 (.tmp 20) (.const (.int .i64 1))⟩,
        ⟨some 1, none, .mv (.tmp 21)⟩])
      (.seq (.seq (.ops [⟨some 22, none, .mv (.tmp 0)⟩,
         ⟨some 23, none, .mv (.tmp 5)⟩,
         ⟨some 24, none, .ia 3 (.tmp 22) (.tmp 23)⟩,
         ⟨some 25, none, .fa 1 (.tmp 24)⟩,
         ⟨some 26, none, .load false 1 (.tmp 25)⟩,
         ⟨some 27, none, .mv (.tmp 1)⟩,
         ⟨some 28, none, .bin .neq 0 (.tmp 26) (.tmp 27)⟩])
       (.cond (.tmp 28) (.seq (.ops [⟨some 4, none, .mv (.const (.int .i64 (-1)))⟩])
        .ret)
       .skip))
      (.seq (.ops [⟨some 29, none, .mv (.tmp 1)⟩,
        ⟨some 30, none, .bin .add 0 (.tmp 29) (.const (.int .i64 1))⟩,
        ⟨some 1, none, .mv (.tmp 30)⟩])
      (.seq (.seq (.ops [⟨some 31, none, .mv (.tmp 0)⟩,
         ⟨some 32, none, .mv (.tmp 5)⟩,
         ⟨some 33, none, .ia 3 (.tmp 31) (.tmp 32)⟩,
         ⟨some 34, none, .fa 2 (.tmp 33)⟩,
         ⟨some 35, none, .load false 1 (.tmp 34)⟩,
         ⟨some 36, none, .mv (.tmp 1)⟩,
         ⟨some 37, none, .bin .neq 0 (.tmp 35) (.tmp 36)⟩])
       (.cond (.tmp 37) (.seq (.ops [⟨some 4, none, .mv (.const (.int .i64 (-1)))⟩])
        .ret)
       .skip))
      (.ops [⟨some 38, none, .mv (.tmp 1)⟩,
       ⟨some 39, none, .bin .add 0 (.tmp 38) (.const (.int .i64 1))⟩,
       ⟨some 1, none, .mv (.tmp 39)⟩])))))))
    (.ops [⟨some 10, none, .mv (.tmp 5)⟩,
     ⟨some 11, none, .bin .add 0 (.tmp 10) (.const (.int .i64 1))⟩,
     ⟨some 5, none, .mv (.tmp 11)⟩]))))))
 (.seq (.ops [⟨some 40, none, .mv (.tmp 1)⟩,
   ⟨some 4, none, .mv (.tmp 40)⟩])
 .ret)))
theorem C28_ok : Try.f28.body.bind (comp Try.prog) = some C28 := by kernel_rfl
theorem C28_res : compRs Try.prog Try.f28.results.toList = some [.tmp 4] := by kernel_rfl
theorem C28_nm : (Try.f28.name == "runtime.NumGoroutine") = false := by kernel_rfl
theorem C28_fn {a0 a1 : AV} {H : Heap} {Q : AV → Heap → Prop} (h : vc Try.prog C28 (vcEnd [.tmp 4] Q) H [a0, a1, .any, .any, .any, .any, .any, .any, .any, .any, .any, .any, .any, .any, .any, .any, .any, .any, .any, .any, .any, .any, .any, .any, .any, .any, .any, .any, .any, .any, .any, .any, .any, .any, .any, .any, .any, .any, .any, .any, .any]) : Runs Try.prog 28 [a0, a1] H Q :=
  @fn_go Try.prog mixed 28 Try.f28 C28 [.tmp 4] Try.func28 C28_ok C28_res C28_nm 41 Try.ntmps28 [a0, a1] [a0, a1, .any, .any, .any, .any, .any, .any, .any, .any, .any, .any, .any, .any, .any, .any, .any, .any, .any, .any, .any, .any, .any, .any, .any, .any, .any, .any, .any, .any, .any, .any, .any, .any, .any, .any, .any, .any, .any, .any, .any] H Q h 39 (by kernel_rfl) (by kernel_rfl)

end Go.Proofs.Ytiomjlnojomneaa
