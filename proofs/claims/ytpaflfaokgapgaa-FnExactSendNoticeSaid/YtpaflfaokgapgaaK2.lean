/- The code of the functions, in the form of our laws; each is the program's own, by the kernel. Written by a program of ours. -/
import Derived.Test.YtpaflfaokgapgaaB0
import Derived.KernelRfl
namespace Go.Proofs.Ytpaflfaokgapgaa
open Go.Abs

/-- impl.ReminderDays -/
def C27 : CC :=
 (.seq (.ops [⟨some 4, none, .mv (.const (.slice none 0 0))⟩,
   ⟨some 5, none, .mv (.const (.int .i64 0))⟩])
 (.seq (.seq (.ops [⟨some 7, none, .mv (.tmp 0)⟩,
    ⟨some 8, none, .mv (.tmp 1)⟩,
    ⟨some 9, none, .call (.func 83) [(.tmp 7), (.tmp 8), (.const (.slice none 0 0))]⟩,
    ⟨some 6, none, .mv (.tmp 9)⟩])
  (.seq (.ops [⟨some 10, none, .mv (.tmp 6)⟩,
    ⟨some 11, none, .bin .neq 0 (.tmp 10) (.const (.int .i64 0))⟩])
  (.cond (.tmp 11) (.seq (.ops [⟨some 12, none, .mv (.tmp 6)⟩,
     ⟨some 4, none, .mv (.const (.slice none 0 0))⟩,
     ⟨some 5, none, .mv (.tmp 12)⟩])
   .ret)
  .skip)))
 (.seq (.ops [⟨some 13, none, .mv (.tmp 0)⟩,
   ⟨some 14, none, .mv (.tmp 1)⟩,
   ⟨some 15, none, .ia 4 (.tmp 13) (.tmp 14)⟩,
   ⟨some 16, none, .load true 4 (.tmp 15)⟩,
   ⟨some 17, none, .call (.func 86) [(.tmp 16)]⟩,
   ⟨some 4, none, .mv (.tmp 17)⟩,
   ⟨some 5, none, .mv (.const (.int .i64 0))⟩])
 .ret)))
theorem C27_ok : Try.f27.body.bind (comp Try.prog) = some C27 := by kernel_rfl
theorem C27_res : compRs Try.prog Try.f27.results.toList = some [.tmp 4, .tmp 5] := by kernel_rfl
theorem C27_nm : (Try.f27.name == "runtime.NumGoroutine") = false := by kernel_rfl
theorem C27_fn {a0 a1 : AV} {H : Heap} {Q : AV → Heap → Prop} (h : vc Try.prog C27 (vcEnd [.tmp 4, .tmp 5] Q) H [a0, a1, .any, .any, .any, .any, .any, .any, .any, .any, .any, .any, .any, .any, .any, .any, .any, .any]) : Runs Try.prog 27 [a0, a1] H Q :=
  @fn_go Try.prog mixed 27 Try.f27 C27 [.tmp 4, .tmp 5] Try.func27 C27_ok C27_res C27_nm 18 Try.ntmps27 [a0, a1] [a0, a1, .any, .any, .any, .any, .any, .any, .any, .any, .any, .any, .any, .any, .any, .any, .any, .any] H Q h 16 (by kernel_rfl) (by kernel_rfl)

/-- laws.eqInt64S -/
def C28 : CC :=
 (.seq (.ops [⟨some 4, none, .mv (.const (.bool false))⟩])
 (.seq (.seq (.ops [⟨some 6, none, .mv (.tmp 0)⟩,
    ⟨some 7, none, .len false (.tmp 6)⟩,
    ⟨some 8, none, .mv (.tmp 1)⟩,
    ⟨some 9, none, .len false (.tmp 8)⟩,
    ⟨some 10, none, .bin .neq 0 (.tmp 7) (.tmp 9)⟩])
  (.cond (.tmp 10) (.seq (.ops [⟨some 4, none, .mv (.const (.bool false))⟩])
   .ret)
  .skip))
 (.seq (.seq (.ops [⟨some 5, none, .mv (.const (.int .i64 0))⟩])
  (.block 0 (.loop (.seq (.seq (.ops [⟨some 11, none, .mv (.tmp 5)⟩,
       ⟨some 12, none, .mv (.tmp 0)⟩,
       ⟨some 13, none, .len false (.tmp 12)⟩,
       ⟨some 14, none, .bin .lss 0 (.tmp 11) (.tmp 13)⟩])
     (.cond (.tmp 14) .skip
     (.exit 0)))
    (.seq (.block 1 (.seq (.draw 9 [⟨some 17, none, .mv (.tmp 0)⟩,
        ⟨some 18, none, .mv (.tmp 5)⟩,
        ⟨some 19, none, .ia 1 (.tmp 17) (.tmp 18)⟩,
        ⟨some 20, none, .load false 1 (.tmp 19)⟩,
        ⟨some 21, none, .mv (.tmp 1)⟩,
        ⟨some 22, none, .mv (.tmp 5)⟩,
        ⟨some 23, none, .ia 1 (.tmp 21) (.tmp 22)⟩,
        ⟨some 24, none, .load false 1 (.tmp 23)⟩,
        ⟨some 25, none, .bin .neq 0 (.tmp 20) (.tmp 24)⟩])
      (.cond (.tmp 25) (.seq (.ops [⟨some 4, none, .mv (.const (.bool false))⟩])
       .ret)
      .skip)))
    (.ops [⟨some 15, none, .mv (.tmp 5)⟩,
     ⟨some 16, none, .bin .add 0 (.tmp 15) (.const (.int .i64 1))⟩,
     ⟨some 5, none, .mv (.tmp 16)⟩]))))))
 (.seq (.ops [⟨some 4, none, .mv (.const (.bool true))⟩])
 .ret))))
theorem C28_ok : Try.f28.body.bind (comp Try.prog) = some C28 := by kernel_rfl
theorem C28_res : compRs Try.prog Try.f28.results.toList = some [.tmp 4] := by kernel_rfl
theorem C28_nm : (Try.f28.name == "runtime.NumGoroutine") = false := by kernel_rfl
theorem C28_fn {a0 a1 : AV} {H : Heap} {Q : AV → Heap → Prop} (h : vc Try.prog C28 (vcEnd [.tmp 4] Q) H [a0, a1, .any, .any, .any, .any, .any, .any, .any, .any, .any, .any, .any, .any, .any, .any, .any, .any, .any, .any, .any, .any, .any, .any, .any, .any]) : Runs Try.prog 28 [a0, a1] H Q :=
  @fn_go Try.prog mixed 28 Try.f28 C28 [.tmp 4] Try.func28 C28_ok C28_res C28_nm 26 Try.ntmps28 [a0, a1] [a0, a1, .any, .any, .any, .any, .any, .any, .any, .any, .any, .any, .any, .any, .any, .any, .any, .any, .any, .any, .any, .any, .any, .any, .any, .any] H Q h 24 (by kernel_rfl) (by kernel_rfl)

/-- laws.markText -/
def C91 : CC :=
 (.seq (.ops [⟨some 2, none, .mv (.const (.string ⟨#[]⟩))⟩])
 (.seq (.seq (.ops [⟨some 4, none, .mv (.tmp 0)⟩,
    ⟨some 5, none, .bin .leq 0 (.tmp 4) (.const (.int .i64 0))⟩])
  (.cond (.tmp 5) (.seq (.ops [⟨some 2, none, .mv (.const (.string ⟨#[109, 48]⟩))⟩])
   .ret)
  .skip))
 (.seq (.ops [⟨some 3, none, .mv (.const (.string ⟨#[]⟩))⟩])
 (.seq (.block 0 (.loop (.seq (.seq (.ops [⟨some 6, none, .mv (.tmp 0)⟩,
       ⟨some 7, none, .bin .gtr 0 (.tmp 6) (.const (.int .i64 0))⟩])
     (.cond (.tmp 7) .skip
     (.exit 0)))
    (.block 1 (.seq (.ops [⟨some 8, none, .mv (.tmp 0)⟩,
       ⟨some 9, none, .bin .rem 0 (.tmp 8) (.const (.int .i64 10))⟩,
       ⟨some 10, none, .bin .add 0 (.const (.int .i64 48)) (.tmp 9)⟩,
       ⟨some 11, none, .conv .u8 (.tmp 10)⟩,
       ⟨some 12, none, .lit 1 [(.tmp 11)]⟩,
       ⟨some 13, none, .bstr (.tmp 12)⟩,
       ⟨some 14, none, .mv (.tmp 3)⟩,
       ⟨some 15, none, .bin .add 0 (.tmp 13) (.tmp 14)⟩,
       ⟨some 3, none, .mv (.tmp 15)⟩])
     (.ops [⟨some 16, none, .mv (.tmp 0)⟩,
      ⟨some 17, none, .bin .quo 0 (.tmp 16) (.const (.int .i64 10))⟩,
      ⟨some 0, none, .mv (.tmp 17)⟩]))))))
 (.seq (.ops [⟨some 18, none, .mv (.tmp 3)⟩,
   ⟨some 19, none, .bin .add 0 (.const (.string ⟨#[109]⟩)) (.tmp 18)⟩,
   ⟨some 2, none, .mv (.tmp 19)⟩])
 .ret)))))
theorem C91_ok : Try.f91.body.bind (comp Try.prog) = some C91 := by kernel_rfl
theorem C91_res : compRs Try.prog Try.f91.results.toList = some [.tmp 2] := by kernel_rfl
theorem C91_nm : (Try.f91.name == "runtime.NumGoroutine") = false := by kernel_rfl
theorem C91_fn {a0 : AV} {H : Heap} {Q : AV → Heap → Prop} (h : vc Try.prog C91 (vcEnd [.tmp 2] Q) H [a0, .any, .any, .any, .any, .any, .any, .any, .any, .any, .any, .any, .any, .any, .any, .any, .any, .any, .any, .any]) : Runs Try.prog 91 [a0] H Q :=
  @fn_go Try.prog mixed 91 Try.f91 C91 [.tmp 2] Try.func91 C91_ok C91_res C91_nm 20 Try.ntmps91 [a0] [a0, .any, .any, .any, .any, .any, .any, .any, .any, .any, .any, .any, .any, .any, .any, .any, .any, .any, .any, .any] H Q h 19 (by kernel_rfl) (by kernel_rfl)

/-- laws.markNoticeS -/
def C29 : CC :=
 (.seq (.ops [⟨some 4, none, .mv (.const (.int .i64 0))⟩])
 (.seq (.seq (.ops [⟨some 5, none, .mv (.const (.int .i64 0))⟩])
  (.block 0 (.loop (.seq (.seq (.ops [⟨some 6, none, .mv (.tmp 5)⟩,
       ⟨some 7, none, .mv (.tmp 0)⟩,
       ⟨some 8, none, .len false (.tmp 7)⟩,
       ⟨some 9, none, .bin .lss 0 (.tmp 6) (.tmp 8)⟩])
     (.cond (.tmp 9) .skip
     (.exit 0)))
    (.seq (.block 1 (.seq (.ops [⟨some 12, none, .mv (.tmp 0)⟩,
        ⟨some 13, none, .mv (.tmp 5)⟩,
        ⟨some 14, none, .mv (.tmp 1)⟩,
        ⟨some 15, none, .call (.func 91) [(.tmp 14)]⟩,
        ⟨some 16, none, .ia 4 (.tmp 12) (.tmp 13)⟩,
        ⟨some 17, none, .fa 0 (.tmp 16)⟩,
        ⟨none, none, .store 1 (.tmp 17) (.tmp 15)⟩])
      (.seq (.ops [⟨some 18, none, .mv (.tmp 1)⟩,
        ⟨some 19, none, .bin .add 0 (.tmp 18) (.const (.int .i64 1))⟩,
        ⟨some 1, none, .mv (.tmp 19)⟩])
      (.seq (.ops [⟨some 20, none, .mv (.tmp 0)⟩,
        ⟨some 21, none, .mv (.tmp 5)⟩,
        ⟨some 22, none, .mv (.tmp 1)⟩,
        ⟨some 23, none, .ia 4 (.tmp 20) (.tmp 21)⟩,
        ⟨some 24, none, .fa 1 (.tmp 23)⟩,
        ⟨none, none, .store 1 (.tmp 24) (.tmp 22)⟩])
      (.seq (.ops [⟨some 25, none, .mv (.tmp 1)⟩,
        ⟨some 26, none, .bin .add 0 (.tmp 25) (.const (.int .i64 1))⟩,
        ⟨some 1, none, .mv (.tmp 26)⟩])
      (.seq (.ops [⟨some 27, none, .mv (.tmp 0)⟩,
        ⟨some 28, none, .mv (.tmp 5)⟩,
        ⟨some 29, none, .mv (.tmp 1)⟩,
        ⟨some 30, none, .ia 4 (.tmp 27) (.tmp 28)⟩,
        ⟨some 31, none, .fa 2 (.tmp 30)⟩,
        ⟨none, none, .store 1 (.tmp 31) (.tmp 29)⟩])
      (.seq (.ops [⟨some 32, none, .mv (.tmp 1)⟩,
        ⟨some 33, none, .bin .add 0 (.tmp 32) (.const (.int .i64 1))⟩,
        ⟨some 1, none, .mv (.tmp 33)⟩])
      (.seq (.ops [⟨some 34, none, .mv (.tmp 0)⟩,
        ⟨some 35, none, .mv (.tmp 5)⟩,
        ⟨some 36, none, .mv (.tmp 1)⟩,
        ⟨some 37, none, .ia 4 (.tmp 34) (.tmp 35)⟩,
        ⟨some 38, none, .fa 3 (.tmp 37)⟩,
        ⟨none, none, .store 1 (.tmp 38) (.tmp 36)⟩])
      (.ops [⟨some 39, none, .mv (.tmp 1)⟩,
       ⟨some 40, none, .bin .add 0 (.tmp 39) (.const (.int .i64 1))⟩,
       ⟨some 1, none, .mv (.tmp 40)⟩])))))))))
    (.ops [⟨some 10, none, .mv (.tmp 5)⟩,
     ⟨some 11, none, .bin .add 0 (.tmp 10) (.const (.int .i64 1))⟩,
     ⟨some 5, none, .mv (.tmp 11)⟩]))))))
 (.seq (.ops [⟨some 41, none, .mv (.tmp 1)⟩,
   ⟨some 4, none, .mv (.tmp 41)⟩])
 .ret)))
theorem C29_ok : Try.f29.body.bind (comp Try.prog) = some C29 := by kernel_rfl
theorem C29_res : compRs Try.prog Try.f29.results.toList = some [.tmp 4] := by kernel_rfl
theorem C29_nm : (Try.f29.name == "runtime.NumGoroutine") = false := by kernel_rfl
theorem C29_fn {a0 a1 : AV} {H : Heap} {Q : AV → Heap → Prop} (h : vc Try.prog C29 (vcEnd [.tmp 4] Q) H [a0, a1, .any, .any, .any, .any, .any, .any, .any, .any, .any, .any, .any, .any, .any, .any, .any, .any, .any, .any, .any, .any, .any, .any, .any, .any, .any, .any, .any, .any, .any, .any, .any, .any, .any, .any, .any, .any, .any, .any, .any, .any]) : Runs Try.prog 29 [a0, a1] H Q :=
  @fn_go Try.prog mixed 29 Try.f29 C29 [.tmp 4] Try.func29 C29_ok C29_res C29_nm 42 Try.ntmps29 [a0, a1] [a0, a1, .any, .any, .any, .any, .any, .any, .any, .any, .any, .any, .any, .any, .any, .any, .any, .any, .any, .any, .any, .any, .any, .any, .any, .any, .any, .any, .any, .any, .any, .any, .any, .any, .any, .any, .any, .any, .any, .any, .any, .any] H Q h 40 (by kernel_rfl) (by kernel_rfl)

/-- laws.markInt64S -/
def C30 : CC :=
 (.seq (.ops [⟨some 4, none, .mv (.const (.int .i64 0))⟩])
 (.seq (.seq (.ops [⟨some 5, none, .mv (.const (.int .i64 0))⟩])
  (.block 0 (.loop (.seq (.seq (.ops [⟨some 6, none, .mv (.tmp 5)⟩,
       ⟨some 7, none, .mv (.tmp 0)⟩,
       ⟨some 8, none, .len false (.tmp 7)⟩,
       ⟨some 9, none, .bin .lss 0 (.tmp 6) (.tmp 8)⟩])
     (.cond (.tmp 9) .skip
     (.exit 0)))
    (.seq (.block 1 (.seq (.ops [⟨some 12, none, .mv (.tmp 0)⟩,
        ⟨some 13, none, .mv (.tmp 5)⟩,
        ⟨some 14, none, .mv (.tmp 1)⟩,
        ⟨some 15, none, .ia 1 (.tmp 12) (.tmp 13)⟩,
        ⟨none, none, .store 1 (.tmp 15) (.tmp 14)⟩])
      (.ops [⟨some 16, none, .mv (.tmp 1)⟩,
       ⟨some 17, none, .bin .add 0 (.tmp 16) (.const (.int .i64 1))⟩,
       ⟨some 1, none, .mv (.tmp 17)⟩])))
    (.ops [⟨some 10, none, .mv (.tmp 5)⟩,
     ⟨some 11, none, .bin .add 0 (.tmp 10) (.const (.int .i64 1))⟩,
     ⟨some 5, none, .mv (.tmp 11)⟩]))))))
 (.seq (.ops [⟨some 18, none, .mv (.tmp 1)⟩,
   ⟨some 4, none, .mv (.tmp 18)⟩])
 .ret)))
theorem C30_ok : Try.f30.body.bind (comp Try.prog) = some C30 := by kernel_rfl
theorem C30_res : compRs Try.prog Try.f30.results.toList = some [.tmp 4] := by kernel_rfl
theorem C30_nm : (Try.f30.name == "runtime.NumGoroutine") = false := by kernel_rfl
theorem C30_fn {a0 a1 : AV} {H : Heap} {Q : AV → Heap → Prop} (h : vc Try.prog C30 (vcEnd [.tmp 4] Q) H [a0, a1, .any, .any, .any, .any, .any, .any, .any, .any, .any, .any, .any, .any, .any, .any, .any, .any, .any]) : Runs Try.prog 30 [a0, a1] H Q :=
  @fn_go Try.prog mixed 30 Try.f30 C30 [.tmp 4] Try.func30 C30_ok C30_res C30_nm 19 Try.ntmps30 [a0, a1] [a0, a1, .any, .any, .any, .any, .any, .any, .any, .any, .any, .any, .any, .any, .any, .any, .any, .any, .any] H Q h 17 (by kernel_rfl) (by kernel_rfl)

/-- laws.heldInt64S -/
def C31 : CC :=
 (.seq (.ops [⟨some 4, none, .mv (.const (.int .i64 0))⟩])
 (.seq (.seq (.ops [⟨some 5, none, .mv (.const (.int .i64 0))⟩])
  (.block 0 (.loop (.seq (.seq (.ops [⟨some 6, none, .mv (.tmp 5)⟩,
       ⟨some 7, none, .mv (.tmp 0)⟩,
       ⟨some 8, none, .len false (.tmp 7)⟩,
       ⟨some 9, none, .bin .lss 0 (.tmp 6) (.tmp 8)⟩])
     (.cond (.tmp 9) .skip
     (.exit 0)))
    (.seq (.block 1 (.seq (.seq (.ops [⟨some 12, none, .mv (.tmp 0)⟩,
         ⟨some 13, none, .mv (.tmp 5)⟩,
         ⟨some 14, none, .ia 1 (.tmp 12) (.tmp 13)⟩,
         ⟨some 15, none, .load false 1 (.tmp 14)⟩,
         ⟨some 16, none, .mv (.tmp 1)⟩,
         ⟨some 17, none, .bin .neq 0 (.tmp 15) (.tmp 16)⟩])
       (.cond (.tmp 17) (.seq (.ops [⟨some 4, none, .mv (.const (.int .i64 (-1)))⟩])
        .ret)
       .skip))
      (.ops [⟨some 18, none, .mv (.tmp 1)⟩,
       ⟨some 19, none, .bin .add 0 (.tmp 18) (.const (.int .i64 1))⟩,
       ⟨some 1, none, .mv (.tmp 19)⟩])))
    (.ops [⟨some 10, none, .mv (.tmp 5)⟩,
     ⟨some 11, none, .bin .add 0 (.tmp 10) (.const (.int .i64 1))⟩,
     ⟨some 5, none, .mv (.tmp 11)⟩]))))))
 (.seq (.ops [⟨some 20, none, .mv (.tmp 1)⟩,
   ⟨some 4, none, .mv (.tmp 20)⟩])
 .ret)))
theorem C31_ok : Try.f31.body.bind (comp Try.prog) = some C31 := by kernel_rfl
theorem C31_res : compRs Try.prog Try.f31.results.toList = some [.tmp 4] := by kernel_rfl
theorem C31_nm : (Try.f31.name == "runtime.NumGoroutine") = false := by kernel_rfl
theorem C31_fn {a0 a1 : AV} {H : Heap} {Q : AV → Heap → Prop} (h : vc Try.prog C31 (vcEnd [.tmp 4] Q) H [a0, a1, .any, .any, .any, .any, .any, .any, .any, .any, .any, .any, .any, .any, .any, .any, .any, .any, .any, .any, .any]) : Runs Try.prog 31 [a0, a1] H Q :=
  @fn_go Try.prog mixed 31 Try.f31 C31 [.tmp 4] Try.func31 C31_ok C31_res C31_nm 21 Try.ntmps31 [a0, a1] [a0, a1, .any, .any, .any, .any, .any, .any, .any, .any, .any, .any, .any, .any, .any, .any, .any, .any, .any, .any, .any] H Q h 19 (by kernel_rfl) (by kernel_rfl)

/-- laws.FnExactReminderDays -/
def C7 : CC :=
 (.seq (.ops [⟨some 4, none, .mv (.const (.bool false))⟩])
 (.seq (.ops [⟨some 5, none, .mv (.const (.int .i64 1048576))⟩])
 (.seq (.ops [⟨some 16, none, .mv (.tmp 0)⟩,
   ⟨some 17, none, .mv (.tmp 5)⟩,
   ⟨some 18, none, .call (.func 15) [(.tmp 16), (.tmp 17)]⟩,
   ⟨some 5, none, .mv (.tmp 18)⟩])
 (.seq (.seq (.ops [⟨some 19, none, .mv (.tmp 5)⟩,
    ⟨some 20, none, .bin .lss 0 (.tmp 19) (.const (.int .i64 0))⟩])
  (.cond (.tmp 20) (.seq (.ops [⟨some 4, none, .mv (.const (.bool true))⟩])
   .ret)
  .skip))
 (.seq (.ops [⟨some 22, none, .mv (.tmp 0)⟩,
   ⟨some 23, none, .call (.func 17) [(.tmp 22)]⟩,
   ⟨some 24, none, .mv (.tmp 1)⟩,
   ⟨some 25, none, .call (.func 26) [(.tmp 23), (.tmp 24)]⟩,
   ⟨some 21, none, .mv (.tmp 25)⟩,
   ⟨some 26, none, .ext (.tmp 21) 0⟩,
   ⟨some 27, none, .ext (.tmp 21) 1⟩,
   ⟨some 6, none, .mv (.tmp 26)⟩,
   ⟨some 7, none, .mv (.tmp 27)⟩])
 (.seq (.ops [⟨some 28, none, .mv (.tmp 0)⟩,
   ⟨some 29, none, .call (.func 17) [(.tmp 28)]⟩,
   ⟨some 8, none, .mv (.tmp 29)⟩])
 (.seq (.ops [⟨some 31, none, .mv (.tmp 8)⟩,
   ⟨some 32, none, .mv (.tmp 1)⟩,
   ⟨some 33, none, .call (.func 27) [(.tmp 31), (.tmp 32)]⟩,
   ⟨some 30, none, .mv (.tmp 33)⟩,
   ⟨some 34, none, .ext (.tmp 30) 0⟩,
   ⟨some 35, none, .ext (.tmp 30) 1⟩,
   ⟨some 9, none, .mv (.tmp 34)⟩,
   ⟨some 10, none, .mv (.tmp 35)⟩])
 (.seq (.seq (.ops [⟨some 36, none, .mv (.tmp 9)⟩,
    ⟨some 37, none, .mv (.tmp 6)⟩,
    ⟨some 38, none, .call (.func 28) [(.tmp 36), (.tmp 37)]⟩,
    ⟨some 39, none, .not (.tmp 38)⟩,
    ⟨some 40, none, .mv (.tmp 39)⟩,
    ⟨some 41, some (40, false), .mv (.tmp 10)⟩,
    ⟨some 42, some (40, false), .mv (.tmp 7)⟩,
    ⟨some 43, some (40, false), .bin .neq 0 (.tmp 41) (.tmp 42)⟩,
    ⟨some 44, none, .pick (.tmp 40) (.const (.bool true)) (.tmp 43)⟩])
  (.cond (.tmp 44) (.seq (.ops [⟨some 4, none, .mv (.const (.bool false))⟩])
   .ret)
  .skip))
 (.seq (.seq (.ops [⟨some 45, none, .mv (.tmp 8)⟩,
    ⟨some 46, none, .mv (.tmp 0)⟩,
    ⟨some 47, none, .call (.func 17) [(.tmp 46)]⟩,
    ⟨some 48, none, .call (.func 19) [(.tmp 45), (.tmp 47)]⟩,
    ⟨some 49, none, .not (.tmp 48)⟩])
  (.cond (.tmp 49) (.seq (.ops [⟨some 4, none, .mv (.const (.bool false))⟩])
   .ret)
  .skip))
 (.seq (.ops [⟨some 11, none, .mv (.const (.int .i64 1))⟩])
 (.seq (.ops [⟨some 50, none, .mv (.tmp 8)⟩,
   ⟨some 51, none, .mv (.tmp 11)⟩,
   ⟨some 52, none, .call (.func 29) [(.tmp 50), (.tmp 51)]⟩,
   ⟨some 11, none, .mv (.tmp 52)⟩])
 (.seq (.seq (.ops [⟨some 53, none, .mv (.tmp 11)⟩,
    ⟨some 54, none, .bin .lss 0 (.tmp 53) (.const (.int .i64 0))⟩,
    ⟨some 55, none, .mv (.tmp 54)⟩,
    ⟨some 56, some (55, false), .mv (.tmp 9)⟩,
    ⟨some 57, some (55, false), .mv (.tmp 6)⟩,
    ⟨some 58, some (55, false), .call (.func 28) [(.tmp 56), (.tmp 57)]⟩,
    ⟨some 59, some (55, false), .not (.tmp 58)⟩,
    ⟨some 60, none, .pick (.tmp 55) (.const (.bool true)) (.tmp 59)⟩,
    ⟨some 61, none, .mv (.tmp 60)⟩,
    ⟨some 62, some (61, false), .mv (.tmp 10)⟩,
    ⟨some 63, some (61, false), .mv (.tmp 7)⟩,
    ⟨some 64, some (61, false), .bin .neq 0 (.tmp 62) (.tmp 63)⟩,
    ⟨some 65, none, .pick (.tmp 61) (.const (.bool true)) (.tmp 64)⟩])
  (.cond (.tmp 65) (.seq (.ops [⟨some 4, none, .mv (.const (.bool false))⟩])
   .ret)
  .skip))
 (.seq (.ops [⟨some 12, none, .mv (.const (.int .i64 1))⟩])
 (.seq (.ops [⟨some 66, none, .mv (.tmp 9)⟩,
   ⟨some 67, none, .mv (.tmp 12)⟩,
   ⟨some 68, none, .call (.func 30) [(.tmp 66), (.tmp 67)]⟩,
   ⟨some 12, none, .mv (.tmp 68)⟩])
 (.seq (.ops [⟨some 13, none, .mv (.const (.int .i64 1))⟩])
 (.seq (.ops [⟨some 69, none, .mv (.tmp 9)⟩,
   ⟨some 70, none, .mv (.tmp 13)⟩,
   ⟨some 71, none, .call (.func 31) [(.tmp 69), (.tmp 70)]⟩,
   ⟨some 13, none, .mv (.tmp 71)⟩])
 (.seq (.seq (.ops [⟨some 72, none, .mv (.tmp 13)⟩,
    ⟨some 73, none, .bin .lss 0 (.tmp 72) (.const (.int .i64 0))⟩])
  (.cond (.tmp 73) (.seq (.ops [⟨some 4, none, .mv (.const (.bool false))⟩])
   .ret)
  .skip))
 (.seq (.seq (.ops [⟨some 74, none, .mv (.tmp 13)⟩,
    ⟨some 75, none, .mv (.tmp 12)⟩,
    ⟨some 76, none, .bin .neq 0 (.tmp 74) (.tmp 75)⟩])
  (.cond (.tmp 76) (.seq (.ops [⟨some 4, none, .mv (.const (.bool false))⟩])
   .ret)
  .skip))
 (.seq (.ops [⟨some 78, none, .mv (.tmp 0)⟩,
   ⟨some 79, none, .call (.func 17) [(.tmp 78)]⟩,
   ⟨some 80, none, .mv (.tmp 1)⟩,
   ⟨some 81, none, .call (.func 27) [(.tmp 79), (.tmp 80)]⟩,
   ⟨some 77, none, .mv (.tmp 81)⟩,
   ⟨some 82, none, .ext (.tmp 77) 0⟩,
   ⟨some 83, none, .ext (.tmp 77) 1⟩,
   ⟨some 14, none, .mv (.tmp 82)⟩,
   ⟨some 15, none, .mv (.tmp 83)⟩])
 (.seq (.seq (.ops [⟨some 84, none, .mv (.tmp 14)⟩,
    ⟨some 85, none, .mv (.tmp 6)⟩,
    ⟨some 86, none, .call (.func 28) [(.tmp 84), (.tmp 85)]⟩,
    ⟨some 87, none, .not (.tmp 86)⟩,
    ⟨some 88, none, .mv (.tmp 87)⟩,
    ⟨some 89, some (88, false), .mv (.tmp 15)⟩,
    ⟨some 90, some (88, false), .mv (.tmp 7)⟩,
    ⟨some 91, some (88, false), .bin .neq 0 (.tmp 89) (.tmp 90)⟩,
    ⟨some 92, none, .pick (.tmp 88) (.const (.bool true)) (.tmp 91)⟩])
  (.cond (.tmp 92) (.seq (.ops [⟨some 4, none, .mv (.const (.bool false))⟩])
   .ret)
  .skip))
 (.seq (.ops [⟨some 13, none, .mv (.const (.int .i64 1))⟩])
 (.seq (.ops [⟨some 93, none, .mv (.tmp 9)⟩,
   ⟨some 94, none, .mv (.tmp 13)⟩,
   ⟨some 95, none, .call (.func 31) [(.tmp 93), (.tmp 94)]⟩,
   ⟨some 13, none, .mv (.tmp 95)⟩])
 (.seq (.seq (.ops [⟨some 96, none, .mv (.tmp 13)⟩,
    ⟨some 97, none, .bin .lss 0 (.tmp 96) (.const (.int .i64 0))⟩])
  (.cond (.tmp 97) (.seq (.ops [⟨some 4, none, .mv (.const (.bool false))⟩])
   .ret)
  .skip))
 (.seq (.seq (.ops [⟨some 98, none, .mv (.tmp 13)⟩,
    ⟨some 99, none, .mv (.tmp 12)⟩,
    ⟨some 100, none, .bin .neq 0 (.tmp 98) (.tmp 99)⟩])
  (.cond (.tmp 100) (.seq (.ops [⟨some 4, none, .mv (.const (.bool false))⟩])
   .ret)
  .skip))
 (.seq (.ops [⟨some 4, none, .mv (.const (.bool true))⟩])
 .ret)))))))))))))))))))))))))
theorem C7_ok : Try.f7.body.bind (comp Try.prog) = some C7 := by kernel_rfl
theorem C7_res : compRs Try.prog Try.f7.results.toList = some [.tmp 4] := by kernel_rfl
theorem C7_nm : (Try.f7.name == "runtime.NumGoroutine") = false := by kernel_rfl
theorem C7_fn {a0 a1 : AV} {H : Heap} {Q : AV → Heap → Prop} (h : vc Try.prog C7 (vcEnd [.tmp 4] Q) H [a0, a1, .any, .any, .any, .any, .any, .any, .any, .any, .any, .any, .any, .any, .any, .any, .any, .any, .any, .any, .any, .any, .any, .any, .any, .any, .any, .any, .any, .any, .any, .any, .any, .any, .any, .any, .any, .any, .any, .any, .any, .any, .any, .any, .any, .any, .any, .any, .any, .any, .any, .any, .any, .any, .any, .any, .any, .any, .any, .any, .any, .any, .any, .any, .any, .any, .any, .any, .any, .any, .any, .any, .any, .any, .any, .any, .any, .any, .any, .any, .any, .any, .any, .any, .any, .any, .any, .any, .any, .any, .any, .any, .any, .any, .any, .any, .any, .any, .any, .any, .any]) : Runs Try.prog 7 [a0, a1] H Q :=
  @fn_go Try.prog mixed 7 Try.f7 C7 [.tmp 4] Try.func7 C7_ok C7_res C7_nm 101 Try.ntmps7 [a0, a1] [a0, a1, .any, .any, .any, .any, .any, .any, .any, .any, .any, .any, .any, .any, .any, .any, .any, .any, .any, .any, .any, .any, .any, .any, .any, .any, .any, .any, .any, .any, .any, .any, .any, .any, .any, .any, .any, .any, .any, .any, .any, .any, .any, .any, .any, .any, .any, .any, .any, .any, .any, .any, .any, .any, .any, .any, .any, .any, .any, .any, .any, .any, .any, .any, .any, .any, .any, .any, .any, .any, .any, .any, .any, .any, .any, .any, .any, .any, .any, .any, .any, .any, .any, .any, .any, .any, .any, .any, .any, .any, .any, .any, .any, .any, .any, .any, .any, .any, .any, .any, .any] H Q h 99 (by kernel_rfl) (by kernel_rfl)

/-- spec.AnswerNotice -/
def C32 : CC :=
 (.seq (.ops [⟨some 6, none, .mv (.const (.slice none 0 0))⟩,
   ⟨some 7, none, .mv (.const (.int .i64 0))⟩])
 (.seq (.ops [⟨some 10, none, .mv (.tmp 0)⟩,
   ⟨some 11, none, .mv (.tmp 1)⟩,
   ⟨some 12, none, .mv (.tmp 2)⟩,
   ⟨some 13, none, .call (.func 81) [(.tmp 10), (.tmp 11), (.tmp 12)]⟩,
   ⟨some 8, none, .mv (.tmp 13)⟩])
 (.seq (.seq (.ops [⟨some 14, none, .mv (.tmp 8)⟩,
    ⟨some 15, none, .bin .eql 0 (.tmp 14) (.const (.int .i64 0))⟩,
    ⟨some 16, none, .mv (.tmp 15)⟩,
    ⟨some 17, some (16, true), .mv (.tmp 0)⟩,
    ⟨some 18, some (16, true), .mv (.tmp 1)⟩,
    ⟨some 19, some (16, true), .ia 4 (.tmp 17) (.tmp 18)⟩,
    ⟨some 20, some (16, true), .fa 3 (.tmp 19)⟩,
    ⟨some 21, some (16, true), .load false 1 (.tmp 20)⟩,
    ⟨some 22, some (16, true), .bin .neq 0 (.tmp 21) (.const (.int .i64 (-1)))⟩,
    ⟨some 23, some (16, true), .mv (.tmp 22)⟩,
    ⟨some 24, some (23, false), .mv (.tmp 2)⟩,
    ⟨some 25, some (23, false), .mv (.tmp 0)⟩,
    ⟨some 26, some (23, false), .mv (.tmp 1)⟩,
    ⟨some 27, some (23, false), .ia 4 (.tmp 25) (.tmp 26)⟩,
    ⟨some 28, some (23, false), .fa 1 (.tmp 27)⟩,
    ⟨some 29, some (23, false), .load false 1 (.tmp 28)⟩,
    ⟨some 30, some (23, false), .bin .lss 0 (.tmp 24) (.tmp 29)⟩,
    ⟨some 31, some (16, true), .pick (.tmp 23) (.const (.bool true)) (.tmp 30)⟩,
    ⟨some 32, none, .pick (.tmp 16) (.tmp 31) (.const (.bool false))⟩])
  (.cond (.tmp 32) (.ops [⟨some 8, none, .mv (.const (.int .i64 5))⟩])
  .skip))
 (.seq (.seq (.ops [⟨some 33, none, .mv (.tmp 8)⟩,
    ⟨some 34, none, .bin .neq 0 (.tmp 33) (.const (.int .i64 0))⟩])
  (.cond (.tmp 34) (.seq (.ops [⟨some 35, none, .mv (.tmp 8)⟩,
     ⟨some 6, none, .mv (.const (.slice none 0 0))⟩,
     ⟨some 7, none, .mv (.tmp 35)⟩])
   .ret)
  .skip))
 (.seq (.ops [⟨some 36, none, .lit 4 []⟩,
   ⟨some 37, none, .mv (.tmp 0)⟩,
   ⟨some 38, none, .app 4 40 (.tmp 36) (.tmp 37)⟩,
   ⟨some 9, none, .mv (.tmp 38)⟩])
 (.seq (.ops [⟨some 39, none, .mv (.tmp 9)⟩,
   ⟨some 40, none, .mv (.tmp 1)⟩,
   ⟨some 41, none, .mv (.tmp 2)⟩,
   ⟨some 42, none, .ia 4 (.tmp 39) (.tmp 40)⟩,
   ⟨some 43, none, .fa 3 (.tmp 42)⟩,
   ⟨none, none, .store 1 (.tmp 43) (.tmp 41)⟩])
 (.seq (.ops [⟨some 44, none, .mv (.tmp 9)⟩,
   ⟨some 6, none, .mv (.tmp 44)⟩,
   ⟨some 7, none, .mv (.const (.int .i64 0))⟩])
 .ret)))))))
theorem C32_ok : Try.f32.body.bind (comp Try.prog) = some C32 := by kernel_rfl
theorem C32_res : compRs Try.prog Try.f32.results.toList = some [.tmp 6, .tmp 7] := by kernel_rfl
theorem C32_nm : (Try.f32.name == "runtime.NumGoroutine") = false := by kernel_rfl
theorem C32_fn {a0 a1 a2 : AV} {H : Heap} {Q : AV → Heap → Prop} (h : vc Try.prog C32 (vcEnd [.tmp 6, .tmp 7] Q) H [a0, a1, a2, .any, .any, .any, .any, .any, .any, .any, .any, .any, .any, .any, .any, .any, .any, .any, .any, .any, .any, .any, .any, .any, .any, .any, .any, .any, .any, .any, .any, .any, .any, .any, .any, .any, .any, .any, .any, .any, .any, .any, .any, .any, .any]) : Runs Try.prog 32 [a0, a1, a2] H Q :=
  @fn_go Try.prog mixed 32 Try.f32 C32 [.tmp 6, .tmp 7] Try.func32 C32_ok C32_res C32_nm 45 Try.ntmps32 [a0, a1, a2] [a0, a1, a2, .any, .any, .any, .any, .any, .any, .any, .any, .any, .any, .any, .any, .any, .any, .any, .any, .any, .any, .any, .any, .any, .any, .any, .any, .any, .any, .any, .any, .any, .any, .any, .any, .any, .any, .any, .any, .any, .any, .any, .any, .any, .any] H Q h 42 (by kernel_rfl) (by kernel_rfl)

/-- impl.copyOf[impl.Notice] -/
def C92 : CC :=
 (.seq (.ops [⟨some 2, none, .mv (.const (.slice none 0 0))⟩])
 (.seq (.ops [⟨some 3, none, .lit 4 []⟩,
   ⟨some 4, none, .mv (.tmp 0)⟩,
   ⟨some 5, none, .app 4 40 (.tmp 3) (.tmp 4)⟩,
   ⟨some 2, none, .mv (.tmp 5)⟩])
 .ret))
theorem C92_ok : Try.f92.body.bind (comp Try.prog) = some C92 := by kernel_rfl
theorem C92_res : compRs Try.prog Try.f92.results.toList = some [.tmp 2] := by kernel_rfl
theorem C92_nm : (Try.f92.name == "runtime.NumGoroutine") = false := by kernel_rfl
theorem C92_fn {a0 : AV} {H : Heap} {Q : AV → Heap → Prop} (h : vc Try.prog C92 (vcEnd [.tmp 2] Q) H [a0, .any, .any, .any, .any, .any]) : Runs Try.prog 92 [a0] H Q :=
  @fn_go Try.prog mixed 92 Try.f92 C92 [.tmp 2] Try.func92 C92_ok C92_res C92_nm 6 Try.ntmps92 [a0] [a0, .any, .any, .any, .any, .any] H Q h 5 (by kernel_rfl) (by kernel_rfl)

/-- impl.AnswerNotice -/
def C33 : CC :=
 (.seq (.ops [⟨some 6, none, .mv (.const (.slice none 0 0))⟩,
   ⟨some 7, none, .mv (.const (.int .i64 0))⟩])
 (.seq (.seq (.ops [⟨some 10, none, .mv (.tmp 0)⟩,
    ⟨some 11, none, .mv (.tmp 1)⟩,
    ⟨some 12, none, .mv (.tmp 2)⟩,
    ⟨some 13, none, .lit 1 [(.tmp 12)]⟩,
    ⟨some 14, none, .call (.func 83) [(.tmp 10), (.tmp 11), (.tmp 13)]⟩,
    ⟨some 8, none, .mv (.tmp 14)⟩])
  (.seq (.ops [⟨some 15, none, .mv (.tmp 8)⟩,
    ⟨some 16, none, .bin .neq 0 (.tmp 15) (.const (.int .i64 0))⟩])
  (.cond (.tmp 16) (.seq (.ops [⟨some 17, none, .mv (.tmp 8)⟩,
     ⟨some 6, none, .mv (.const (.slice none 0 0))⟩,
     ⟨some 7, none, .mv (.tmp 17)⟩])
   .ret)
  .skip)))
 (.seq (.seq (.ops [⟨some 18, none, .mv (.tmp 0)⟩,
    ⟨some 19, none, .mv (.tmp 1)⟩,
    ⟨some 20, none, .ia 4 (.tmp 18) (.tmp 19)⟩,
    ⟨some 21, none, .load true 4 (.tmp 20)⟩,
    ⟨some 22, none, .call (.func 87) [(.tmp 21)]⟩,
    ⟨some 23, none, .not (.tmp 22)⟩,
    ⟨some 24, none, .mv (.tmp 23)⟩,
    ⟨some 25, some (24, false), .mv (.tmp 2)⟩,
    ⟨some 26, some (24, false), .mv (.tmp 0)⟩,
    ⟨some 27, some (24, false), .mv (.tmp 1)⟩,
    ⟨some 28, some (24, false), .ia 4 (.tmp 26) (.tmp 27)⟩,
    ⟨some 29, some (24, false), .fa 1 (.tmp 28)⟩,
    ⟨some 30, some (24, false), .load false 1 (.tmp 29)⟩,
    ⟨some 31, some (24, false), .bin .lss 0 (.tmp 25) (.tmp 30)⟩,
    ⟨some 32, none, .pick (.tmp 24) (.const (.bool true)) (.tmp 31)⟩])
  (.cond (.tmp 32) (.seq (.ops [⟨some 6, none, .mv (.const (.slice none 0 0))⟩,
     ⟨some 7, none, .mv (.const (.int .i64 5))⟩])
   .ret)
  .skip))
 (.seq (.ops [⟨some 33, none, .mv (.tmp 0)⟩,
   ⟨some 34, none, .call (.func 92) [(.tmp 33)]⟩,
   ⟨some 9, none, .mv (.tmp 34)⟩])
 (.seq (.ops [⟨some 35, none, .mv (.tmp 9)⟩,
   ⟨some 36, none, .mv (.tmp 1)⟩,
   ⟨some 37, none, .mv (.tmp 2)⟩,
   ⟨some 38, none, .ia 4 (.tmp 35) (.tmp 36)⟩,
   ⟨some 39, none, .fa 3 (.tmp 38)⟩,
   ⟨none, none, .store 1 (.tmp 39) (.tmp 37)⟩])
 (.seq (.ops [⟨some 40, none, .mv (.tmp 9)⟩,
   ⟨some 6, none, .mv (.tmp 40)⟩,
   ⟨some 7, none, .mv (.const (.int .i64 0))⟩])
 .ret))))))
theorem C33_ok : Try.f33.body.bind (comp Try.prog) = some C33 := by kernel_rfl
theorem C33_res : compRs Try.prog Try.f33.results.toList = some [.tmp 6, .tmp 7] := by kernel_rfl
theorem C33_nm : (Try.f33.name == "runtime.NumGoroutine") = false := by kernel_rfl
theorem C33_fn {a0 a1 a2 : AV} {H : Heap} {Q : AV → Heap → Prop} (h : vc Try.prog C33 (vcEnd [.tmp 6, .tmp 7] Q) H [a0, a1, a2, .any, .any, .any, .any, .any, .any, .any, .any, .any, .any, .any, .any, .any, .any, .any, .any, .any, .any, .any, .any, .any, .any, .any, .any, .any, .any, .any, .any, .any, .any, .any, .any, .any, .any, .any, .any, .any, .any]) : Runs Try.prog 33 [a0, a1, a2] H Q :=
  @fn_go Try.prog mixed 33 Try.f33 C33 [.tmp 6, .tmp 7] Try.func33 C33_ok C33_res C33_nm 41 Try.ntmps33 [a0, a1, a2] [a0, a1, a2, .any, .any, .any, .any, .any, .any, .any, .any, .any, .any, .any, .any, .any, .any, .any, .any, .any, .any, .any, .any, .any, .any, .any, .any, .any, .any, .any, .any, .any, .any, .any, .any, .any, .any, .any, .any, .any, .any] H Q h 38 (by kernel_rfl) (by kernel_rfl)

/-- laws.heldNoticeS -/
def C34 : CC :=
 (.seq (.ops [⟨some 4, none, .mv (.const (.int .i64 0))⟩])
 (.seq (.seq (.ops [⟨some 5, none, .mv (.const (.int .i64 0))⟩])
  (.block 0 (.loop (.seq (.seq (.ops [⟨some 6, none, .mv (.tmp 5)⟩,
       ⟨some 7, none, .mv (.tmp 0)⟩,
       ⟨some 8, none, .len false (.tmp 7)⟩,
       ⟨some 9, none, .bin .lss 0 (.tmp 6) (.tmp 8)⟩])
     (.cond (.tmp 9) .skip
     (.exit 0)))
    (.seq (.block 1 (.seq (.seq (.draw 8 [⟨some 12, none, .mv (.tmp 0)⟩,
         ⟨some 13, none, .mv (.tmp 5)⟩,
         ⟨some 14, none, .ia 4 (.tmp 12) (.tmp 13)⟩,
         ⟨some 15, none, .fa 0 (.tmp 14)⟩,
         ⟨some 16, none, .load false 1 (.tmp 15)⟩,
         ⟨some 17, none, .mv (.tmp 1)⟩,
         ⟨some 18, none, .call (.func 91) [(.tmp 17)]⟩,
         ⟨some 19, none, .bin .neq 0 (.tmp 16) (.tmp 18)⟩])
       (.cond (.tmp 19) (.seq (.ops [⟨some 4, none, .mv (.const (.int .i64 (-1)))⟩])
        .ret)
       .skip))
      (.seq (.ops [⟨some 20, none, .mv (.tmp 1)⟩,
        ⟨some 21, none, .bin .add 0 (.tmp 20) (.const (.int .i64 1))⟩,
        ⟨some 1, none, .mv (.tmp 21)⟩])
      (.seq (.seq (.ops [⟨some 22, none, .mv (.tmp 0)⟩,
         ⟨some 23, none, .mv (.tmp 5)⟩,
         ⟨some 24, none, .ia 4 (.tmp 22) (.tmp 23)⟩,
         ⟨some 25, none, .fa 1 (.tmp 24)⟩,
         ⟨some 26, none, .load false 1 (.tmp 25)⟩,
         ⟨some 27, none, .mv (.tmp 1)⟩,
         ⟨some 28, none, .bin .neq 0 (.tmp 26) (.tmp 27)⟩])
       (.cond (.tmp 28) (.seq (.ops [⟨some 4, none, .mv (.const (.int .i64 (-1)))⟩])
        .ret)
       .skip))
      (.seq (.ops [⟨some 29, none, .mv (.tmp 1)⟩,
        ⟨some 30, none, .bin .add 0 (.tmp 29) (.const (.int .i64 1))⟩,
        ⟨some 1, none, .mv (.tmp 30)⟩])
      (.seq (.seq (.ops [⟨some 31, none, .mv (.tmp 0)⟩,
         ⟨some 32, none, .mv (.tmp 5)⟩,
         ⟨some 33, none, .ia 4 (.tmp 31) (.tmp 32)⟩,
         ⟨some 34, none, .fa 2 (.tmp 33)⟩,
         ⟨some 35, none, .load false 1 (.tmp 34)⟩,
         ⟨some 36, none, .mv (.tmp 1)⟩,
         ⟨some 37, none, .bin .neq 0 (.tmp 35) (.tmp 36)⟩])
       (.cond (.tmp 37) (.seq (.ops [⟨some 4, none, .mv (.const (.int .i64 (-1)))⟩])
        .ret)
       .skip))
      (.seq (.ops [⟨some 38, none, .mv (.tmp 1)⟩,
        ⟨some 39, none, .bin .add 0 (.tmp 38) (.const (.int .i64 1))⟩,
        ⟨some 1, none, .mv (.tmp 39)⟩])
      (.seq (.seq (.ops [⟨some 40, none, .mv (.tmp 0)⟩,
         ⟨some 41, none, .mv (.tmp 5)⟩,
         ⟨some 42, none, .ia 4 (.tmp 40) (.tmp 41)⟩,
         ⟨some 43, none, .fa 3 (.tmp 42)⟩,
         ⟨some 44, none, .load false 1 (.tmp 43)⟩,
         ⟨some 45, none, .mv (.tmp 1)⟩,
         ⟨some 46, none, .bin .neq 0 (.tmp 44) (.tmp 45)⟩])
       (.cond (.tmp 46) (.seq (.ops [⟨some 4, none, .mv (.const (.int .i64 (-1)))⟩])
        .ret)
       .skip))
      (.ops [⟨some 47, none, .mv (.tmp 1)⟩,
       ⟨some 48, none, .bin .add 0 (.tmp 47) (.const (.int .i64 1))⟩,
       ⟨some 1, none, .mv (.tmp 48)⟩])))))))))
    (.ops [⟨some 10, none, .mv (.tmp 5)⟩,
     ⟨some 11, none, .bin .add 0 (.tmp 10) (.const (.int .i64 1))⟩,
     ⟨some 5, none, .mv (.tmp 11)⟩]))))))
 (.seq (.ops [⟨some 49, none, .mv (.tmp 1)⟩,
   ⟨some 4, none, .mv (.tmp 49)⟩])
 .ret)))
theorem C34_ok : Try.f34.body.bind (comp Try.prog) = some C34 := by kernel_rfl
theorem C34_res : compRs Try.prog Try.f34.results.toList = some [.tmp 4] := by kernel_rfl
theorem C34_nm : (Try.f34.name == "runtime.NumGoroutine") = false := by kernel_rfl
theorem C34_fn {a0 a1 : AV} {H : Heap} {Q : AV → Heap → Prop} (h : vc Try.prog C34 (vcEnd [.tmp 4] Q) H [a0, a1, .any, .any, .any, .any, .any, .any, .any, .any, .any, .any, .any, .any, .any, .any, .any, .any, .any, .any, .any, .any, .any, .any, .any, .any, .any, .any, .any, .any, .any, .any, .any, .any, .any, .any, .any, .any, .any, .any, .any, .any, .any, .any, .any, .any, .any, .any, .any, .any]) : Runs Try.prog 34 [a0, a1] H Q :=
  @fn_go Try.prog mixed 34 Try.f34 C34 [.tmp 4] Try.func34 C34_ok C34_res C34_nm 50 Try.ntmps34 [a0, a1] [a0, a1, .any, .any, .any, .any, .any, .any, .any, .any, .any, .any, .any, .any, .any, .any, .any, .any, .any, .any, .any, .any, .any, .any, .any, .any, .any, .any, .any, .any, .any, .any, .any, .any, .any, .any, .any, .any, .any, .any, .any, .any, .any, .any, .any, .any, .any, .any, .any, .any] H Q h 48 (by kernel_rfl) (by kernel_rfl)

/-- laws.FnExactAnswerNotice -/
def C8 : CC :=
 (.seq (.ops [⟨some 6, none, .mv (.const (.bool false))⟩])
 (.seq (.ops [⟨some 7, none, .mv (.const (.int .i64 1048576))⟩])
 (.seq (.ops [⟨some 18, none, .mv (.tmp 0)⟩,
   ⟨some 19, none, .mv (.tmp 7)⟩,
   ⟨some 20, none, .call (.func 15) [(.tmp 18), (.tmp 19)]⟩,
   ⟨some 7, none, .mv (.tmp 20)⟩])
 (.seq (.seq (.ops [⟨some 21, none, .mv (.tmp 7)⟩,
    ⟨some 22, none, .bin .lss 0 (.tmp 21) (.const (.int .i64 0))⟩])
  (.cond (.tmp 22) (.seq (.ops [⟨some 6, none, .mv (.const (.bool true))⟩])
   .ret)
  .skip))
 (.seq (.ops [⟨some 24, none, .mv (.tmp 0)⟩,
   ⟨some 25, none, .call (.func 17) [(.tmp 24)]⟩,
   ⟨some 26, none, .mv (.tmp 1)⟩,
   ⟨some 27, none, .mv (.tmp 2)⟩,
   ⟨some 28, none, .call (.func 32) [(.tmp 25), (.tmp 26), (.tmp 27)]⟩,
   ⟨some 23, none, .mv (.tmp 28)⟩,
   ⟨some 29, none, .ext (.tmp 23) 0⟩,
   ⟨some 30, none, .ext (.tmp 23) 1⟩,
   ⟨some 8, none, .mv (.tmp 29)⟩,
   ⟨some 9, none, .mv (.tmp 30)⟩])
 (.seq (.ops [⟨some 31, none, .mv (.tmp 0)⟩,
   ⟨some 32, none, .call (.func 17) [(.tmp 31)]⟩,
   ⟨some 10, none, .mv (.tmp 32)⟩])
 (.seq (.ops [⟨some 34, none, .mv (.tmp 10)⟩,
   ⟨some 35, none, .mv (.tmp 1)⟩,
   ⟨some 36, none, .mv (.tmp 2)⟩,
   ⟨some 37, none, .call (.func 33) [(.tmp 34), (.tmp 35), (.tmp 36)]⟩,
   ⟨some 33, none, .mv (.tmp 37)⟩,
   ⟨some 38, none, .ext (.tmp 33) 0⟩,
   ⟨some 39, none, .ext (.tmp 33) 1⟩,
   ⟨some 11, none, .mv (.tmp 38)⟩,
   ⟨some 12, none, .mv (.tmp 39)⟩])
 (.seq (.seq (.ops [⟨some 40, none, .mv (.tmp 11)⟩,
    ⟨some 41, none, .mv (.tmp 8)⟩,
    ⟨some 42, none, .call (.func 19) [(.tmp 40), (.tmp 41)]⟩,
    ⟨some 43, none, .not (.tmp 42)⟩,
    ⟨some 44, none, .mv (.tmp 43)⟩,
    ⟨some 45, some (44, false), .mv (.tmp 12)⟩,
    ⟨some 46, some (44, false), .mv (.tmp 9)⟩,
    ⟨some 47, some (44, false), .bin .neq 0 (.tmp 45) (.tmp 46)⟩,
    ⟨some 48, none, .pick (.tmp 44) (.const (.bool true)) (.tmp 47)⟩])
  (.cond (.tmp 48) (.seq (.ops [⟨some 6, none, .mv (.const (.bool false))⟩])
   .ret)
  .skip))
 (.seq (.seq (.ops [⟨some 49, none, .mv (.tmp 10)⟩,
    ⟨some 50, none, .mv (.tmp 0)⟩,
    ⟨some 51, none, .call (.func 17) [(.tmp 50)]⟩,
    ⟨some 52, none, .call (.func 19) [(.tmp 49), (.tmp 51)]⟩,
    ⟨some 53, none, .not (.tmp 52)⟩])
  (.cond (.tmp 53) (.seq (.ops [⟨some 6, none, .mv (.const (.bool false))⟩])
   .ret)
  .skip))
 (.seq (.ops [⟨some 13, none, .mv (.const (.int .i64 1))⟩])
 (.seq (.ops [⟨some 54, none, .mv (.tmp 10)⟩,
   ⟨some 55, none, .mv (.tmp 13)⟩,
   ⟨some 56, none, .call (.func 29) [(.tmp 54), (.tmp 55)]⟩,
   ⟨some 13, none, .mv (.tmp 56)⟩])
 (.seq (.seq (.ops [⟨some 57, none, .mv (.tmp 13)⟩,
    ⟨some 58, none, .bin .lss 0 (.tmp 57) (.const (.int .i64 0))⟩,
    ⟨some 59, none, .mv (.tmp 58)⟩,
    ⟨some 60, some (59, false), .mv (.tmp 11)⟩,
    ⟨some 61, some (59, false), .mv (.tmp 8)⟩,
    ⟨some 62, some (59, false), .call (.func 19) [(.tmp 60), (.tmp 61)]⟩,
    ⟨some 63, some (59, false), .not (.tmp 62)⟩,
    ⟨some 64, none, .pick (.tmp 59) (.const (.bool true)) (.tmp 63)⟩,
    ⟨some 65, none, .mv (.tmp 64)⟩,
    ⟨some 66, some (65, false), .mv (.tmp 12)⟩,
    ⟨some 67, some (65, false), .mv (.tmp 9)⟩,
    ⟨some 68, some (65, false), .bin .neq 0 (.tmp 66) (.tmp 67)⟩,
    ⟨some 69, none, .pick (.tmp 65) (.const (.bool true)) (.tmp 68)⟩])
  (.cond (.tmp 69) (.seq (.ops [⟨some 6, none, .mv (.const (.bool false))⟩])
   .ret)
  .skip))
 (.seq (.ops [⟨some 14, none, .mv (.const (.int .i64 1))⟩])
 (.seq (.ops [⟨some 70, none, .mv (.tmp 11)⟩,
   ⟨some 71, none, .mv (.tmp 14)⟩,
   ⟨some 72, none, .call (.func 29) [(.tmp 70), (.tmp 71)]⟩,
   ⟨some 14, none, .mv (.tmp 72)⟩])
 (.seq (.ops [⟨some 15, none, .mv (.const (.int .i64 1))⟩])
 (.seq (.ops [⟨some 73, none, .mv (.tmp 11)⟩,
   ⟨some 74, none, .mv (.tmp 15)⟩,
   ⟨some 75, none, .call (.func 34) [(.tmp 73), (.tmp 74)]⟩,
   ⟨some 15, none, .mv (.tmp 75)⟩])
 (.seq (.seq (.ops [⟨some 76, none, .mv (.tmp 15)⟩,
    ⟨some 77, none, .bin .lss 0 (.tmp 76) (.const (.int .i64 0))⟩])
  (.cond (.tmp 77) (.seq (.ops [⟨some 6, none, .mv (.const (.bool false))⟩])
   .ret)
  .skip))
 (.seq (.seq (.ops [⟨some 78, none, .mv (.tmp 15)⟩,
    ⟨some 79, none, .mv (.tmp 14)⟩,
    ⟨some 80, none, .bin .neq 0 (.tmp 78) (.tmp 79)⟩])
  (.cond (.tmp 80) (.seq (.ops [⟨some 6, none, .mv (.const (.bool false))⟩])
   .ret)
  .skip))
 (.seq (.ops [⟨some 82, none, .mv (.tmp 0)⟩,
   ⟨some 83, none, .call (.func 17) [(.tmp 82)]⟩,
   ⟨some 84, none, .mv (.tmp 1)⟩,
   ⟨some 85, none, .mv (.tmp 2)⟩,
   ⟨some 86, none, .call (.func 33) [(.tmp 83), (.tmp 84), (.tmp 85)]⟩,
   ⟨some 81, none, .mv (.tmp 86)⟩,
   ⟨some 87, none, .ext (.tmp 81) 0⟩,
   ⟨some 88, none, .ext (.tmp 81) 1⟩,
   ⟨some 16, none, .mv (.tmp 87)⟩,
   ⟨some 17, none, .mv (.tmp 88)⟩])
 (.seq (.seq (.ops [⟨some 89, none, .mv (.tmp 16)⟩,
    ⟨some 90, none, .mv (.tmp 8)⟩,
    ⟨some 91, none, .call (.func 19) [(.tmp 89), (.tmp 90)]⟩,
    ⟨some 92, none, .not (.tmp 91)⟩,
    ⟨some 93, none, .mv (.tmp 92)⟩,
    ⟨some 94, some (93, false), .mv (.tmp 17)⟩,
    ⟨some 95, some (93, false), .mv (.tmp 9)⟩,
    ⟨some 96, some (93, false), .bin .neq 0 (.tmp 94) (.tmp 95)⟩,
    ⟨some 97, none, .pick (.tmp 93) (.const (.bool true)) (.tmp 96)⟩])
  (.cond (.tmp 97) (.seq (.ops [⟨some 6, none, .mv (.const (.bool false))⟩])
   .ret)
  .skip))
 (.seq (.ops [⟨some 15, none, .mv (.const (.int .i64 1))⟩])
 (.seq (.ops [⟨some 98, none, .mv (.tmp 11)⟩,
   ⟨some 99, none, .mv (.tmp 15)⟩,
   ⟨some 100, none, .call (.func 34) [(.tmp 98), (.tmp 99)]⟩,
   ⟨some 15, none, .mv (.tmp 100)⟩])
 (.seq (.seq (.ops [⟨some 101, none, .mv (.tmp 15)⟩,
    ⟨some 102, none, .bin .lss 0 (.tmp 101) (.const (.int .i64 0))⟩])
  (.cond (.tmp 102) (.seq (.ops [⟨some 6, none, .mv (.const (.bool false))⟩])
   .ret)
  .skip))
 (.seq (.seq (.ops [⟨some 103, none, .mv (.tmp 15)⟩,
    ⟨some 104, none, .mv (.tmp 14)⟩,
    ⟨some 105, none, .bin .neq 0 (.tmp 103) (.tmp 104)⟩])
  (.cond (.tmp 105) (.seq (.ops [⟨some 6, none, .mv (.const (.bool false))⟩])
   .ret)
  .skip))
 (.seq (.ops [⟨some 6, none, .mv (.const (.bool true))⟩])
 .ret)))))))))))))))))))))))))
theorem C8_ok : Try.f8.body.bind (comp Try.prog) = some C8 := by kernel_rfl
theorem C8_res : compRs Try.prog Try.f8.results.toList = some [.tmp 6] := by kernel_rfl
theorem C8_nm : (Try.f8.name == "runtime.NumGoroutine") = false := by kernel_rfl
theorem C8_fn {a0 a1 a2 : AV} {H : Heap} {Q : AV → Heap → Prop} (h : vc Try.prog C8 (vcEnd [.tmp 6] Q) H [a0, a1, a2, .any, .any, .any, .any, .any, .any, .any, .any, .any, .any, .any, .any, .any, .any, .any, .any, .any, .any, .any, .any, .any, .any, .any, .any, .any, .any, .any, .any, .any, .any, .any, .any, .any, .any, .any, .any, .any, .any, .any, .any, .any, .any, .any, .any, .any, .any, .any, .any, .any, .any, .any, .any, .any, .any, .any, .any, .any, .any, .any, .any, .any, .any, .any, .any, .any, .any, .any, .any, .any, .any, .any, .any, .any, .any, .any, .any, .any, .any, .any, .any, .any, .any, .any, .any, .any, .any, .any, .any, .any, .any, .any, .any, .any, .any, .any, .any, .any, .any, .any, .any, .any, .any, .any]) : Runs Try.prog 8 [a0, a1, a2] H Q :=
  @fn_go Try.prog mixed 8 Try.f8 C8 [.tmp 6] Try.func8 C8_ok C8_res C8_nm 106 Try.ntmps8 [a0, a1, a2] [a0, a1, a2, .any, .any, .any, .any, .any, .any, .any, .any, .any, .any, .any, .any, .any, .any, .any, .any, .any, .any, .any, .any, .any, .any, .any, .any, .any, .any, .any, .any, .any, .any, .any, .any, .any, .any, .any, .any, .any, .any, .any, .any, .any, .any, .any, .any, .any, .any, .any, .any, .any, .any, .any, .any, .any, .any, .any, .any, .any, .any, .any, .any, .any, .any, .any, .any, .any, .any, .any, .any, .any, .any, .any, .any, .any, .any, .any, .any, .any, .any, .any, .any, .any, .any, .any, .any, .any, .any, .any, .any, .any, .any, .any, .any, .any, .any, .any, .any, .any, .any, .any, .any, .any, .any, .any] H Q h 103 (by kernel_rfl) (by kernel_rfl)

/-- spec.OverdueOn -/
def C35 : CC :=
 (.seq (.ops [⟨some 4, none, .mv (.const (.slice none 0 0))⟩,
   ⟨some 5, none, .mv (.const (.int .i64 0))⟩])
 (.seq (.seq (.ops [⟨some 9, none, .mv (.tmp 0)⟩,
    ⟨some 10, none, .call (.func 16) [(.tmp 9)]⟩,
    ⟨some 11, none, .not (.tmp 10)⟩])
  (.cond (.tmp 11) (.seq (.ops [⟨some 4, none, .mv (.const (.slice none 0 0))⟩,
     ⟨some 5, none, .mv (.const (.int .i64 1))⟩])
   .ret)
  .skip))
 (.seq (.seq (.ops [⟨some 12, none, .mv (.tmp 1)⟩,
    ⟨some 13, none, .call (.func 72) [(.tmp 12)]⟩,
    ⟨some 14, none, .not (.tmp 13)⟩])
  (.cond (.tmp 14) (.seq (.ops [⟨some 4, none, .mv (.const (.slice none 0 0))⟩,
     ⟨some 5, none, .mv (.const (.int .i64 2))⟩])
   .ret)
  .skip))
 (.seq (.ops [⟨some 15, none, .lit 1 []⟩,
   ⟨some 6, none, .mv (.tmp 15)⟩])
 (.seq (.seq (.ops [⟨some 7, none, .mv (.const (.int .i64 0))⟩])
  (.block 0 (.loop (.seq (.seq (.ops [⟨some 16, none, .mv (.tmp 7)⟩,
       ⟨some 17, none, .mv (.tmp 0)⟩,
       ⟨some 18, none, .len false (.tmp 17)⟩,
       ⟨some 19, none, .bin .lss 0 (.tmp 16) (.tmp 18)⟩])
     (.cond (.tmp 19) .skip
     (.exit 0)))
    (.seq (.block 1 (.seq (.ops [⟨some 22, none, .mv (.tmp 0)⟩,
        ⟨some 23, none, .mv (.tmp 7)⟩,
        ⟨some 24, none, .ia 4 (.tmp 22) (.tmp 23)⟩,
        ⟨some 25, none, .load true 4 (.tmp 24)⟩,
        ⟨some 8, none, .alloc [.string ⟨#[]⟩, .int .i64 0, .int .i64 0, .int .i64 0]⟩,
        ⟨none, none, .store 4 (.tmp 8) (.tmp 25)⟩])
      (.seq (.ops [⟨some 26, none, .mv (.tmp 1)⟩,
        ⟨some 27, none, .load true 4 (.tmp 8)⟩,
        ⟨some 28, none, .call (.func 82) [(.tmp 27)]⟩,
        ⟨some 29, none, .bin .gtr 0 (.tmp 26) (.tmp 28)⟩,
        ⟨some 30, none, .mv (.tmp 29)⟩,
        ⟨some 31, some (30, true), .fa 3 (.tmp 8)⟩,
        ⟨some 32, some (30, true), .load false 1 (.tmp 31)⟩,
        ⟨some 33, some (30, true), .bin .eql 0 (.tmp 32) (.const (.int .i64 (-1)))⟩,
        ⟨some 34, some (30, true), .mv (.tmp 33)⟩,
        ⟨some 35, some (34, false), .fa 3 (.tmp 8)⟩,
        ⟨some 36, some (34, false), .load false 1 (.tmp 35)⟩,
        ⟨some 37, some (34, false), .mv (.tmp 1)⟩,
        ⟨some 38, some (34, false), .bin .gtr 0 (.tmp 36) (.tmp 37)⟩,
        ⟨some 39, some (30, true), .pick (.tmp 34) (.const (.bool true)) (.tmp 38)⟩,
        ⟨some 40, none, .pick (.tmp 30) (.tmp 39) (.const (.bool false))⟩])
      (.cond (.tmp 40) (.ops [⟨some 41, none, .mv (.tmp 6)⟩,
        ⟨some 42, none, .mv (.tmp 7)⟩,
        ⟨some 43, none, .lit 1 [(.tmp 42)]⟩,
        ⟨some 44, none, .app 1 8 (.tmp 41) (.tmp 43)⟩,
        ⟨some 6, none, .mv (.tmp 44)⟩])
      .skip))))
    (.ops [⟨some 20, none, .mv (.tmp 7)⟩,
     ⟨some 21, none, .bin .add 0 (.tmp 20) (.const (.int .i64 1))⟩,
     ⟨some 7, none, .mv (.tmp 21)⟩]))))))
 (.seq (.ops [⟨some 45, none, .mv (.tmp 6)⟩,
   ⟨some 4, none, .mv (.tmp 45)⟩,
   ⟨some 5, none, .mv (.const (.int .i64 0))⟩])
 .ret))))))
theorem C35_ok : Try.f35.body.bind (comp Try.prog) = some C35 := by kernel_rfl
theorem C35_res : compRs Try.prog Try.f35.results.toList = some [.tmp 4, .tmp 5] := by kernel_rfl
theorem C35_nm : (Try.f35.name == "runtime.NumGoroutine") = false := by kernel_rfl
theorem C35_fn {a0 a1 : AV} {H : Heap} {Q : AV → Heap → Prop} (h : vc Try.prog C35 (vcEnd [.tmp 4, .tmp 5] Q) H [a0, a1, .any, .any, .any, .any, .any, .any, .any, .any, .any, .any, .any, .any, .any, .any, .any, .any, .any, .any, .any, .any, .any, .any, .any, .any, .any, .any, .any, .any, .any, .any, .any, .any, .any, .any, .any, .any, .any, .any, .any, .any, .any, .any, .any, .any]) : Runs Try.prog 35 [a0, a1] H Q :=
  @fn_go Try.prog mixed 35 Try.f35 C35 [.tmp 4, .tmp 5] Try.func35 C35_ok C35_res C35_nm 46 Try.ntmps35 [a0, a1] [a0, a1, .any, .any, .any, .any, .any, .any, .any, .any, .any, .any, .any, .any, .any, .any, .any, .any, .any, .any, .any, .any, .any, .any, .any, .any, .any, .any, .any, .any, .any, .any, .any, .any, .any, .any, .any, .any, .any, .any, .any, .any, .any, .any, .any, .any] H Q h 44 (by kernel_rfl) (by kernel_rfl)

/-- impl.indices[impl.Notice] -/
def C93 : CC :=
 (.seq (.ops [⟨some 4, none, .mv (.const (.slice none 0 0))⟩])
 (.seq (.ops [⟨some 8, none, .lit 1 []⟩,
   ⟨some 5, none, .mv (.tmp 8)⟩])
 (.seq (.seq (.ops [⟨some 9, none, .mv (.tmp 0)⟩,
    ⟨some 10, none, .len false (.tmp 9)⟩,
    ⟨some 11, none, .mv (.const (.int .i64 0))⟩])
  (.block 0 (.loop (.seq (.ops [⟨some 12, none, .bin .lss 0 (.tmp 11) (.tmp 10)⟩])
    (.seq (.cond (.tmp 12) .skip
     (.exit 0))
    (.seq (.block 1 (.seq (.ops [⟨some 13, none, .mv (.tmp 11)⟩,
        ⟨some 14, none, .ia 4 (.tmp 9) (.tmp 11)⟩,
        ⟨some 15, none, .load true 4 (.tmp 14)⟩,
        ⟨some 7, none, .alloc [.string ⟨#[]⟩, .int .i64 0, .int .i64 0, .int .i64 0]⟩,
        ⟨some 6, none, .mv (.tmp 13)⟩,
        ⟨none, none, .store 4 (.tmp 7) (.tmp 15)⟩])
      (.seq (.ops [⟨some 16, none, .mv (.tmp 1)⟩,
        ⟨some 17, none, .load true 4 (.tmp 7)⟩,
        ⟨some 18, none, .call (.tmp 16) [(.tmp 17)]⟩])
      (.cond (.tmp 18) (.ops [⟨some 19, none, .mv (.tmp 5)⟩,
        ⟨some 20, none, .mv (.tmp 6)⟩,
        ⟨some 21, none, .lit 1 [(.tmp 20)]⟩,
        ⟨some 22, none, .app 1 8 (.tmp 19) (.tmp 21)⟩,
        ⟨some 5, none, .mv (.tmp 22)⟩])
      .skip))))
    (.ops [⟨some 23, none, .bin .add 0 (.tmp 11) (.const (.int .i64 1))⟩,
     ⟨some 11, none, .mv (.tmp 23)⟩])))))))
 (.seq (.ops [⟨some 24, none, .mv (.tmp 5)⟩,
   ⟨some 4, none, .mv (.tmp 24)⟩])
 .ret))))
theorem C93_ok : Try.f93.body.bind (comp Try.prog) = some C93 := by kernel_rfl
theorem C93_res : compRs Try.prog Try.f93.results.toList = some [.tmp 4] := by kernel_rfl
theorem C93_nm : (Try.f93.name == "runtime.NumGoroutine") = false := by kernel_rfl
theorem C93_fn {a0 a1 : AV} {H : Heap} {Q : AV → Heap → Prop} (h : vc Try.prog C93 (vcEnd [.tmp 4] Q) H [a0, a1, .any, .any, .any, .any, .any, .any, .any, .any, .any, .any, .any, .any, .any, .any, .any, .any, .any, .any, .any, .any, .any, .any, .any]) : Runs Try.prog 93 [a0, a1] H Q :=
  @fn_go Try.prog mixed 93 Try.f93 C93 [.tmp 4] Try.func93 C93_ok C93_res C93_nm 25 Try.ntmps93 [a0, a1] [a0, a1, .any, .any, .any, .any, .any, .any, .any, .any, .any, .any, .any, .any, .any, .any, .any, .any, .any, .any, .any, .any, .any, .any, .any] H Q h 23 (by kernel_rfl) (by kernel_rfl)

/-- impl.OverdueOn$1 -/
def C94 : CC :=
 (.seq (.ops [⟨some 2, none, .box (.tmp 0)⟩,
   ⟨some 3, none, .mv (.const (.bool false))⟩])
 (.seq (.draw 14 [⟨some 4, none, .load false 1 (.tmp 1)⟩,
   ⟨some 5, none, .load true 4 (.tmp 2)⟩,
   ⟨some 6, none, .call (.func 84) [(.tmp 5)]⟩,
   ⟨some 7, none, .bin .gtr 0 (.tmp 4) (.tmp 6)⟩,
   ⟨some 8, none, .mv (.tmp 7)⟩,
   ⟨some 9, some (8, true), .load true 4 (.tmp 2)⟩,
   ⟨some 10, some (8, true), .call (.func 87) [(.tmp 9)]⟩,
   ⟨some 11, some (8, true), .mv (.tmp 10)⟩,
   ⟨some 12, some (11, false), .fa 3 (.tmp 2)⟩,
   ⟨some 13, some (11, false), .load false 1 (.tmp 12)⟩,
   ⟨some 14, some (11, false), .load false 1 (.tmp 1)⟩,
   ⟨some 15, some (11, false), .bin .gtr 0 (.tmp 13) (.tmp 14)⟩,
   ⟨some 16, some (8, true), .pick (.tmp 11) (.const (.bool true)) (.tmp 15)⟩,
   ⟨some 17, none, .pick (.tmp 8) (.tmp 16) (.const (.bool false))⟩,
   ⟨some 3, none, .mv (.tmp 17)⟩])
 .ret))
theorem C94_ok : Try.f94.body.bind (comp Try.prog) = some C94 := by kernel_rfl
theorem C94_res : compRs Try.prog Try.f94.results.toList = some [.tmp 3] := by kernel_rfl
theorem C94_nm : (Try.f94.name == "runtime.NumGoroutine") = false := by kernel_rfl
theorem C94_fn {a0 a1 : AV} {H : Heap} {Q : AV → Heap → Prop} (h : vc Try.prog C94 (vcEnd [.tmp 3] Q) H [a0, a1, .any, .any, .any, .any, .any, .any, .any, .any, .any, .any, .any, .any, .any, .any, .any, .any]) : Runs Try.prog 94 [a0, a1] H Q :=
  @fn_go Try.prog mixed 94 Try.f94 C94 [.tmp 3] Try.func94 C94_ok C94_res C94_nm 18 Try.ntmps94 [a0, a1] [a0, a1, .any, .any, .any, .any, .any, .any, .any, .any, .any, .any, .any, .any, .any, .any, .any, .any] H Q h 16 (by kernel_rfl) (by kernel_rfl)

/-- impl.OverdueOn -/
def C36 : CC :=
 (.seq (.ops [⟨some 3, none, .box (.tmp 1)⟩,
   ⟨some 4, none, .mv (.const (.slice none 0 0))⟩,
   ⟨some 5, none, .mv (.const (.int .i64 0))⟩])
 (.seq (.seq (.ops [⟨some 7, none, .mv (.tmp 0)⟩,
    ⟨some 8, none, .load false 1 (.tmp 3)⟩,
    ⟨some 9, none, .call (.func 85) [(.tmp 7), (.tmp 8)]⟩,
    ⟨some 6, none, .mv (.tmp 9)⟩])
  (.seq (.ops [⟨some 10, none, .mv (.tmp 6)⟩,
    ⟨some 11, none, .bin .neq 0 (.tmp 10) (.const (.int .i64 0))⟩])
  (.cond (.tmp 11) (.seq (.ops [⟨some 12, none, .mv (.tmp 6)⟩,
     ⟨some 4, none, .mv (.const (.slice none 0 0))⟩,
     ⟨some 5, none, .mv (.tmp 12)⟩])
   .ret)
  .skip)))
 (.seq (.ops [⟨some 13, none, .mv (.tmp 0)⟩,
   ⟨some 14, none, .mkf 94 [(.tmp 3)]⟩,
   ⟨some 15, none, .call (.func 93) [(.tmp 13), (.tmp 14)]⟩,
   ⟨some 4, none, .mv (.tmp 15)⟩,
   ⟨some 5, none, .mv (.const (.int .i64 0))⟩])
 .ret)))
theorem C36_ok : Try.f36.body.bind (comp Try.prog) = some C36 := by kernel_rfl
theorem C36_res : compRs Try.prog Try.f36.results.toList = some [.tmp 4, .tmp 5] := by kernel_rfl
theorem C36_nm : (Try.f36.name == "runtime.NumGoroutine") = false := by kernel_rfl
theorem C36_fn {a0 a1 : AV} {H : Heap} {Q : AV → Heap → Prop} (h : vc Try.prog C36 (vcEnd [.tmp 4, .tmp 5] Q) H [a0, a1, .any, .any, .any, .any, .any, .any, .any, .any, .any, .any, .any, .any, .any, .any]) : Runs Try.prog 36 [a0, a1] H Q :=
  @fn_go Try.prog mixed 36 Try.f36 C36 [.tmp 4, .tmp 5] Try.func36 C36_ok C36_res C36_nm 16 Try.ntmps36 [a0, a1] [a0, a1, .any, .any, .any, .any, .any, .any, .any, .any, .any, .any, .any, .any, .any, .any] H Q h 14 (by kernel_rfl) (by kernel_rfl)

end Go.Proofs.Ytpaflfaokgapgaa
