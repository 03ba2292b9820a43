/- The code of the functions, in the form of our laws; each is the program's own, by the kernel. Written by a program of ours. -/
import Derived.Test.YtcbijbckbloadaaB0
import Derived.KernelRfl
namespace Go.Proofs.Ytcbijbckbloadaa
open Go.Abs

/-- impl.amountOf -/
def C100 : CC :=
 (.seq (.ops [⟨some 2, none, .mv (.const (.int .i64 0))⟩,
   ⟨some 3, none, .mv (.const (.int .i64 0))⟩])
 (.seq (.seq (.ops [⟨some 4, none, .mv (.tmp 0)⟩,
    ⟨some 5, none, .call (.func 60) [(.tmp 4)]⟩,
    ⟨some 6, none, .not (.tmp 5)⟩])
  (.cond (.tmp 6) (.seq (.ops [⟨some 2, none, .mv (.const (.int .i64 0))⟩,
     ⟨some 3, none, .mv (.const (.int .i64 3))⟩])
   .ret)
  .skip))
 (.seq (.ops [⟨some 7, none, .mv (.tmp 0)⟩,
   ⟨some 2, none, .mv (.tmp 7)⟩,
   ⟨some 3, none, .mv (.const (.int .i64 0))⟩])
 .ret)))
theorem C100_ok : Try.f100.body.bind (comp Try.prog) = some C100 := by kernel_rfl
theorem C100_res : compRs Try.prog Try.f100.results.toList = some [.tmp 2, .tmp 3] := by kernel_rfl
theorem C100_nm : (Try.f100.name == "runtime.NumGoroutine") = false := by kernel_rfl
theorem C100_fn {a0 : AV} {H : Heap} {Q : AV → Heap → Prop} (h : vc Try.prog C100 (vcEnd [.tmp 2, .tmp 3] Q) H [a0, .any, .any, .any, .any, .any, .any, .any]) : Runs Try.prog 100 [a0] H Q :=
  @fn_go Try.prog mixed 100 Try.f100 C100 [.tmp 2, .tmp 3] Try.func100 C100_ok C100_res C100_nm 8 Try.ntmps100 [a0] [a0, .any, .any, .any, .any, .any, .any, .any] H Q h 7 (by kernel_rfl) (by kernel_rfl)

/-- impl.asked -/
def C101 : CC :=
 (.seq (.ops [⟨some 6, none, .mv (.const (.int .i64 0))⟩])
 (.seq (.ops [⟨some 7, none, .mv (.const (.int .i64 0))⟩])
 (.seq (.seq (.ops [⟨some 10, none, .mv (.tmp 0)⟩,
    ⟨some 11, none, .len false (.tmp 10)⟩,
    ⟨some 12, none, .mv (.const (.int .i64 0))⟩])
  (.block 0 (.loop (.seq (.ops [⟨some 13, none, .bin .lss 0 (.tmp 12) (.tmp 11)⟩])
    (.seq (.cond (.tmp 13) .skip
     (.exit 0))
    (.seq (.block 1 (.seq (.ops [⟨some 14, none, .ia 3 (.tmp 10) (.tmp 12)⟩,
        ⟨some 15, none, .load true 3 (.tmp 14)⟩,
        ⟨some 9, none, .alloc [.string ⟨#[]⟩, .int .i64 0, .int .i64 0]⟩,
        ⟨none, none, .store 3 (.tmp 9) (.tmp 15)⟩])
      (.seq (.ops [⟨some 16, none, .fa 1 (.tmp 9)⟩,
        ⟨some 17, none, .load false 1 (.tmp 16)⟩,
        ⟨some 18, none, .mv (.tmp 1)⟩,
        ⟨some 19, none, .mv (.tmp 2)⟩,
        ⟨some 20, none, .call (.func 69) [(.tmp 17), (.tmp 18), (.tmp 19)]⟩])
      (.cond (.tmp 20) (.ops [⟨some 21, none, .mv (.tmp 7)⟩,
        ⟨some 22, none, .fa 2 (.tmp 9)⟩,
        ⟨some 23, none, .load false 1 (.tmp 22)⟩,
        ⟨some 24, none, .bin .add 0 (.tmp 21) (.tmp 23)⟩,
        ⟨some 7, none, .mv (.tmp 24)⟩])
      .skip))))
    (.ops [⟨some 25, none, .bin .add 0 (.tmp 12) (.const (.int .i64 1))⟩,
     ⟨some 12, none, .mv (.tmp 25)⟩])))))))
 (.seq (.ops [⟨some 26, none, .mv (.tmp 7)⟩,
   ⟨some 6, none, .mv (.tmp 26)⟩])
 .ret))))
theorem C101_ok : Try.f101.body.bind (comp Try.prog) = some C101 := by kernel_rfl
theorem C101_res : compRs Try.prog Try.f101.results.toList = some [.tmp 6] := by kernel_rfl
theorem C101_nm : (Try.f101.name == "runtime.NumGoroutine") = false := by kernel_rfl
theorem C101_fn {a0 a1 a2 : AV} {H : Heap} {Q : AV → Heap → Prop} (h : vc Try.prog C101 (vcEnd [.tmp 6] Q) H [a0, a1, a2, .any, .any, .any, .any, .any, .any, .any, .any, .any, .any, .any, .any, .any, .any, .any, .any, .any, .any, .any, .any, .any, .any, .any, .any]) : Runs Try.prog 101 [a0, a1, a2] H Q :=
  @fn_go Try.prog mixed 101 Try.f101 C101 [.tmp 6] Try.func101 C101_ok C101_res C101_nm 27 Try.ntmps101 [a0, a1, a2] [a0, a1, a2, .any, .any, .any, .any, .any, .any, .any, .any, .any, .any, .any, .any, .any, .any, .any, .any, .any, .any, .any, .any, .any, .any, .any, .any] H Q h 24 (by kernel_rfl) (by kernel_rfl)

/-- impl.FundUpTo -/
def C42 : CC :=
 (.seq (.ops [⟨some 4, none, .mv (.const (.int .i64 0))⟩,
   ⟨some 5, none, .mv (.const (.int .i64 0))⟩])
 (.seq (.block 0 (.seq (.ops [⟨some 7, none, .mv (.tmp 0)⟩,
     ⟨some 8, none, .call (.func 25) [(.tmp 7)]⟩,
     ⟨some 9, none, .not (.tmp 8)⟩,
     ⟨some 6, none, .mv (.tmp 9)⟩])
   (.cond (.tmp 6) (.seq (.ops [⟨some 4, none, .mv (.const (.int .i64 0))⟩,
      ⟨some 5, none, .mv (.const (.int .i64 1))⟩])
    .ret)
   (.seq (.ops [⟨some 11, none, .mv (.tmp 1)⟩,
      ⟨some 12, none, .call (.func 76) [(.tmp 11)]⟩,
      ⟨some 13, none, .not (.tmp 12)⟩,
      ⟨some 10, none, .mv (.tmp 13)⟩])
    (.cond (.tmp 10) (.seq (.ops [⟨some 4, none, .mv (.const (.int .i64 0))⟩,
       ⟨some 5, none, .mv (.const (.int .i64 2))⟩])
     .ret)
    .skip)))))
 (.seq (.ops [⟨some 14, none, .mv (.tmp 0)⟩,
   ⟨some 15, none, .mv (.tmp 1)⟩,
   ⟨some 16, none, .call (.func 101) [(.tmp 14), (.const (.int .i64 1)), (.tmp 15)]⟩,
   ⟨some 17, none, .call (.func 100) [(.tmp 16)]⟩,
   ⟨some 18, none, .ext (.tmp 17) 0⟩,
   ⟨some 19, none, .ext (.tmp 17) 1⟩,
   ⟨some 4, none, .mv (.tmp 18)⟩,
   ⟨some 5, none, .mv (.tmp 19)⟩])
 .ret)))
theorem C42_ok : Try.f42.body.bind (comp Try.prog) = some C42 := by kernel_rfl
theorem C42_res : compRs Try.prog Try.f42.results.toList = some [.tmp 4, .tmp 5] := by kernel_rfl
theorem C42_nm : (Try.f42.name == "runtime.NumGoroutine") = false := by kernel_rfl
theorem C42_fn {a0 a1 : AV} {H : Heap} {Q : AV → Heap → Prop} (h : vc Try.prog C42 (vcEnd [.tmp 4, .tmp 5] Q) H [a0, a1, .any, .any, .any, .any, .any, .any, .any, .any, .any, .any, .any, .any, .any, .any, .any, .any, .any, .any]) : Runs Try.prog 42 [a0, a1] H Q :=
  @fn_go Try.prog mixed 42 Try.f42 C42 [.tmp 4, .tmp 5] Try.func42 C42_ok C42_res C42_nm 20 Try.ntmps42 [a0, a1] [a0, a1, .any, .any, .any, .any, .any, .any, .any, .any, .any, .any, .any, .any, .any, .any, .any, .any, .any, .any] H Q h 18 (by kernel_rfl) (by kernel_rfl)

/-- laws.FnExactFundUpTo -/
def C10 : CC :=
 (.seq (.ops [⟨some 4, none, .mv (.const (.bool false))⟩])
 (.seq (.ops [⟨some 5, none, .mv (.const (.int .i64 1048576))⟩])
 (.seq (.ops [⟨some 11, none, .mv (.tmp 0)⟩,
   ⟨some 12, none, .mv (.tmp 5)⟩,
   ⟨some 13, none, .call (.func 22) [(.tmp 11), (.tmp 12)]⟩,
   ⟨some 5, none, .mv (.tmp 13)⟩])
 (.seq (.seq (.ops [⟨some 14, none, .mv (.tmp 5)⟩,
    ⟨some 15, none, .bin .lss 0 (.tmp 14) (.const (.int .i64 0))⟩])
  (.cond (.tmp 15) (.seq (.ops [⟨some 4, none, .mv (.const (.bool true))⟩])
   .ret)
  .skip))
 (.seq (.ops [⟨some 17, none, .mv (.tmp 0)⟩,
   ⟨some 18, none, .call (.func 24) [(.tmp 17)]⟩,
   ⟨some 19, none, .mv (.tmp 1)⟩,
   ⟨some 20, none, .call (.func 41) [(.tmp 18), (.tmp 19)]⟩,
   ⟨some 16, none, .mv (.tmp 20)⟩,
   ⟨some 21, none, .ext (.tmp 16) 0⟩,
   ⟨some 22, none, .ext (.tmp 16) 1⟩,
   ⟨some 6, none, .mv (.tmp 21)⟩,
   ⟨some 7, none, .mv (.tmp 22)⟩])
 (.seq (.ops [⟨some 23, none, .mv (.tmp 0)⟩,
   ⟨some 24, none, .call (.func 24) [(.tmp 23)]⟩,
   ⟨some 8, none, .mv (.tmp 24)⟩])
 (.seq (.ops [⟨some 26, none, .mv (.tmp 8)⟩,
   ⟨some 27, none, .mv (.tmp 1)⟩,
   ⟨some 28, none, .call (.func 42) [(.tmp 26), (.tmp 27)]⟩,
   ⟨some 25, none, .mv (.tmp 28)⟩,
   ⟨some 29, none, .ext (.tmp 25) 0⟩,
   ⟨some 30, none, .ext (.tmp 25) 1⟩,
   ⟨some 9, none, .mv (.tmp 29)⟩,
   ⟨some 10, none, .mv (.tmp 30)⟩])
 (.seq (.seq (.ops [⟨some 31, none, .mv (.tmp 9)⟩,
    ⟨some 32, none, .mv (.tmp 6)⟩,
    ⟨some 33, none, .bin .neq 0 (.tmp 31) (.tmp 32)⟩,
    ⟨some 34, none, .mv (.tmp 33)⟩,
    ⟨some 35, some (34, false), .mv (.tmp 10)⟩,
    ⟨some 36, some (34, false), .mv (.tmp 7)⟩,
    ⟨some 37, some (34, false), .bin .neq 0 (.tmp 35) (.tmp 36)⟩,
    ⟨some 38, none, .pick (.tmp 34) (.const (.bool true)) (.tmp 37)⟩])
  (.cond (.tmp 38) (.seq (.ops [⟨some 4, none, .mv (.const (.bool false))⟩])
   .ret)
  .skip))
 (.seq (.seq (.ops [⟨some 39, none, .mv (.tmp 8)⟩,
    ⟨some 40, none, .mv (.tmp 0)⟩,
    ⟨some 41, none, .call (.func 24) [(.tmp 40)]⟩,
    ⟨some 42, none, .call (.func 26) [(.tmp 39), (.tmp 41)]⟩,
    ⟨some 43, none, .not (.tmp 42)⟩])
  (.cond (.tmp 43) (.seq (.ops [⟨some 4, none, .mv (.const (.bool false))⟩])
   .ret)
  .skip))
 (.seq (.ops [⟨some 4, none, .mv (.const (.bool true))⟩])
 .ret))))))))))
theorem C10_ok : Try.f10.body.bind (comp Try.prog) = some C10 := by kernel_rfl
theorem C10_res : compRs Try.prog Try.f10.results.toList = some [.tmp 4] := by kernel_rfl
theorem C10_nm : (Try.f10.name == "runtime.NumGoroutine") = false := by kernel_rfl
theorem C10_fn {a0 a1 : AV} {H : Heap} {Q : AV → Heap → Prop} (h : vc Try.prog C10 (vcEnd [.tmp 4] Q) H [a0, a1, .any, .any, .any, .any, .any, .any, .any, .any, .any, .any, .any, .any, .any, .any, .any, .any, .any, .any, .any, .any, .any, .any, .any, .any, .any, .any, .any, .any, .any, .any, .any, .any, .any, .any, .any, .any, .any, .any, .any, .any, .any, .any]) : Runs Try.prog 10 [a0, a1] H Q :=
  @fn_go Try.prog mixed 10 Try.f10 C10 [.tmp 4] Try.func10 C10_ok C10_res C10_nm 44 Try.ntmps10 [a0, a1] [a0, a1, .any, .any, .any, .any, .any, .any, .any, .any, .any, .any, .any, .any, .any, .any, .any, .any, .any, .any, .any, .any, .any, .any, .any, .any, .any, .any, .any, .any, .any, .any, .any, .any, .any, .any, .any, .any, .any, .any, .any, .any, .any, .any] H Q h 42 (by kernel_rfl) (by kernel_rfl)

/-- spec.l22Find -/
def C102 : CC :=
 (.seq (.ops [⟨some 4, none, .mv (.const (.int .i64 0))⟩])
 (.seq (.seq (.ops [⟨some 5, none, .mv (.const (.int .i64 0))⟩])
  (.block 0 (.loop (.seq (.seq (.ops [⟨some 6, none, .mv (.tmp 5)⟩,
       ⟨some 7, none, .mv (.tmp 0)⟩,
       ⟨some 8, none, .len false (.tmp 7)⟩,
       ⟨some 9, none, .bin .lss 0 (.tmp 6) (.tmp 8)⟩])
     (.cond (.tmp 9) .skip
     (.exit 0)))
    (.seq (.block 1 (.seq (.ops [⟨some 12, none, .mv (.tmp 0)⟩,
        ⟨some 13, none, .mv (.tmp 5)⟩,
        ⟨some 14, none, .ia 5 (.tmp 12) (.tmp 13)⟩,
        ⟨some 15, none, .fa 0 (.tmp 14)⟩,
        ⟨some 16, none, .load false 1 (.tmp 15)⟩,
        ⟨some 17, none, .mv (.tmp 1)⟩,
        ⟨some 18, none, .bin .eql 0 (.tmp 16) (.tmp 17)⟩])
      (.cond (.tmp 18) (.seq (.ops [⟨some 19, none, .mv (.tmp 5)⟩,
         ⟨some 4, none, .mv (.tmp 19)⟩])
       .ret)
      .skip)))
    (.ops [⟨some 10, none, .mv (.tmp 5)⟩,
     ⟨some 11, none, .bin .add 0 (.tmp 10) (.const (.int .i64 1))⟩,
     ⟨some 5, none, .mv (.tmp 11)⟩]))))))
 (.seq (.ops [⟨some 4, none, .mv (.const (.int .i64 (-1)))⟩])
 .ret)))
theorem C102_ok : Try.f102.body.bind (comp Try.prog) = some C102 := by kernel_rfl
theorem C102_res : compRs Try.prog Try.f102.results.toList = some [.tmp 4] := by kernel_rfl
theorem C102_nm : (Try.f102.name == "runtime.NumGoroutine") = false := by kernel_rfl
theorem C102_fn {a0 a1 : AV} {H : Heap} {Q : AV → Heap → Prop} (h : vc Try.prog C102 (vcEnd [.tmp 4] Q) H [a0, a1, .any, .any, .any, .any, .any, .any, .any, .any, .any, .any, .any, .any, .any, .any, .any, .any, .any, .any]) : Runs Try.prog 102 [a0, a1] H Q :=
  @fn_go Try.prog mixed 102 Try.f102 C102 [.tmp 4] Try.func102 C102_ok C102_res C102_nm 20 Try.ntmps102 [a0, a1] [a0, a1, .any, .any, .any, .any, .any, .any, .any, .any, .any, .any, .any, .any, .any, .any, .any, .any, .any, .any] H Q h 18 (by kernel_rfl) (by kernel_rfl)

/-- spec.MeritOf -/
def C43 : CC :=
 (.seq (.ops [⟨some 4, none, .mv (.const (.int .i64 0))⟩,
   ⟨some 5, none, .mv (.const (.int .i64 0))⟩])
 (.seq (.seq (.ops [⟨some 7, none, .mv (.tmp 0)⟩,
    ⟨some 8, none, .call (.func 33) [(.tmp 7)]⟩,
    ⟨some 9, none, .not (.tmp 8)⟩])
  (.cond (.tmp 9) (.seq (.ops [⟨some 4, none, .mv (.const (.int .i64 0))⟩,
     ⟨some 5, none, .mv (.const (.int .i64 1))⟩])
   .ret)
  .skip))
 (.seq (.ops [⟨some 10, none, .mv (.tmp 0)⟩,
   ⟨some 11, none, .mv (.tmp 1)⟩,
   ⟨some 12, none, .call (.func 102) [(.tmp 10), (.tmp 11)]⟩,
   ⟨some 6, none, .mv (.tmp 12)⟩])
 (.seq (.seq (.ops [⟨some 13, none, .mv (.tmp 6)⟩,
    ⟨some 14, none, .bin .lss 0 (.tmp 13) (.const (.int .i64 0))⟩])
  (.cond (.tmp 14) (.seq (.ops [⟨some 4, none, .mv (.const (.int .i64 0))⟩,
     ⟨some 5, none, .mv (.const (.int .i64 4))⟩])
   .ret)
  .skip))
 (.seq (.ops [⟨some 15, none, .mv (.tmp 0)⟩,
   ⟨some 16, none, .mv (.tmp 6)⟩,
   ⟨some 17, none, .ia 5 (.tmp 15) (.tmp 16)⟩,
   ⟨some 18, none, .load true 5 (.tmp 17)⟩,
   ⟨some 19, none, .call (.func 97) [(.tmp 18)]⟩,
   ⟨some 4, none, .mv (.tmp 19)⟩,
   ⟨some 5, none, .mv (.const (.int .i64 0))⟩])
 .ret)))))
theorem C43_ok : Try.f43.body.bind (comp Try.prog) = some C43 := by kernel_rfl
theorem C43_res : compRs Try.prog Try.f43.results.toList = some [.tmp 4, .tmp 5] := by kernel_rfl
theorem C43_nm : (Try.f43.name == "runtime.NumGoroutine") = false := by kernel_rfl
theorem C43_fn {a0 a1 : AV} {H : Heap} {Q : AV → Heap → Prop} (h : vc Try.prog C43 (vcEnd [.tmp 4, .tmp 5] Q) H [a0, a1, .any, .any, .any, .any, .any, .any, .any, .any, .any, .any, .any, .any, .any, .any, .any, .any, .any, .any]) : Runs Try.prog 43 [a0, a1] H Q :=
  @fn_go Try.prog mixed 43 Try.f43 C43 [.tmp 4, .tmp 5] Try.func43 C43_ok C43_res C43_nm 20 Try.ntmps43 [a0, a1] [a0, a1, .any, .any, .any, .any, .any, .any, .any, .any, .any, .any, .any, .any, .any, .any, .any, .any, .any, .any] H Q h 18 (by kernel_rfl) (by kernel_rfl)

/-- impl.indexOf[impl.Claim] -/
def C103 : CC :=
 (.seq (.ops [⟨some 4, none, .mv (.const (.int .i64 0))⟩,
   ⟨some 5, none, .mv (.const (.int .i64 0))⟩])
 (.seq (.ops [⟨some 7, none, .mv (.tmp 0)⟩,
   ⟨some 8, none, .mv (.tmp 1)⟩,
   ⟨some 9, none, .call (.func 129) [(.tmp 7), (.tmp 8)]⟩,
   ⟨some 6, none, .mv (.tmp 9)⟩])
 (.seq (.seq (.ops [⟨some 10, none, .mv (.tmp 6)⟩,
    ⟨some 11, none, .bin .lss 0 (.tmp 10) (.const (.int .i64 0))⟩])
  (.cond (.tmp 11) (.seq (.ops [⟨some 4, none, .mv (.const (.int .i64 0))⟩,
     ⟨some 5, none, .mv (.const (.int .i64 4))⟩])
   .ret)
  .skip))
 (.seq (.ops [⟨some 12, none, .mv (.tmp 6)⟩,
   ⟨some 4, none, .mv (.tmp 12)⟩,
   ⟨some 5, none, .mv (.const (.int .i64 0))⟩])
 .ret))))
theorem C103_ok : Try.f103.body.bind (comp Try.prog) = some C103 := by kernel_rfl
theorem C103_res : compRs Try.prog Try.f103.results.toList = some [.tmp 4, .tmp 5] := by kernel_rfl
theorem C103_nm : (Try.f103.name == "runtime.NumGoroutine") = false := by kernel_rfl
theorem C103_fn {a0 a1 : AV} {H : Heap} {Q : AV → Heap → Prop} (h : vc Try.prog C103 (vcEnd [.tmp 4, .tmp 5] Q) H [a0, a1, .any, .any, .any, .any, .any, .any, .any, .any, .any, .any, .any]) : Runs Try.prog 103 [a0, a1] H Q :=
  @fn_go Try.prog mixed 103 Try.f103 C103 [.tmp 4, .tmp 5] Try.func103 C103_ok C103_res C103_nm 13 Try.ntmps103 [a0, a1] [a0, a1, .any, .any, .any, .any, .any, .any, .any, .any, .any, .any, .any] H Q h 11 (by kernel_rfl) (by kernel_rfl)

/-- impl.MeritOf$1 -/
def C104 : CC :=
 (.seq (.ops [⟨some 2, none, .box (.tmp 0)⟩,
   ⟨some 3, none, .mv (.const (.bool false))⟩])
 (.seq (.ops [⟨some 4, none, .fa 0 (.tmp 2)⟩,
   ⟨some 5, none, .load false 1 (.tmp 4)⟩,
   ⟨some 6, none, .load false 1 (.tmp 1)⟩,
   ⟨some 7, none, .bin .eql 0 (.tmp 5) (.tmp 6)⟩,
   ⟨some 3, none, .mv (.tmp 7)⟩])
 .ret))
theorem C104_ok : Try.f104.body.bind (comp Try.prog) = some C104 := by kernel_rfl
theorem C104_res : compRs Try.prog Try.f104.results.toList = some [.tmp 3] := by kernel_rfl
theorem C104_nm : (Try.f104.name == "runtime.NumGoroutine") = false := by kernel_rfl
theorem C104_fn {a0 a1 : AV} {H : Heap} {Q : AV → Heap → Prop} (h : vc Try.prog C104 (vcEnd [.tmp 3] Q) H [a0, a1, .any, .any, .any, .any, .any, .any]) : Runs Try.prog 104 [a0, a1] H Q :=
  @fn_go Try.prog mixed 104 Try.f104 C104 [.tmp 3] Try.func104 C104_ok C104_res C104_nm 8 Try.ntmps104 [a0, a1] [a0, a1, .any, .any, .any, .any, .any, .any] H Q h 6 (by kernel_rfl) (by kernel_rfl)

/-- impl.MeritOf -/
def C44 : CC :=
 (.seq (.ops [⟨some 3, none, .box (.tmp 1)⟩,
   ⟨some 4, none, .mv (.const (.int .i64 0))⟩,
   ⟨some 5, none, .mv (.const (.int .i64 0))⟩])
 (.seq (.seq (.ops [⟨some 8, none, .mv (.tmp 0)⟩,
    ⟨some 9, none, .call (.func 35) [(.tmp 8)]⟩,
    ⟨some 10, none, .not (.tmp 9)⟩])
  (.cond (.tmp 10) (.seq (.ops [⟨some 4, none, .mv (.const (.int .i64 0))⟩,
     ⟨some 5, none, .mv (.const (.int .i64 1))⟩])
   .ret)
  .skip))
 (.seq (.ops [⟨some 12, none, .mv (.tmp 0)⟩,
   ⟨some 13, none, .mkf 104 [(.tmp 3)]⟩,
   ⟨some 14, none, .call (.func 103) [(.tmp 12), (.tmp 13)]⟩,
   ⟨some 11, none, .mv (.tmp 14)⟩,
   ⟨some 15, none, .ext (.tmp 11) 0⟩,
   ⟨some 16, none, .ext (.tmp 11) 1⟩,
   ⟨some 6, none, .mv (.tmp 15)⟩,
   ⟨some 7, none, .mv (.tmp 16)⟩])
 (.seq (.seq (.ops [⟨some 17, none, .mv (.tmp 7)⟩,
    ⟨some 18, none, .bin .neq 0 (.tmp 17) (.const (.int .i64 0))⟩])
  (.cond (.tmp 18) (.seq (.ops [⟨some 19, none, .mv (.tmp 7)⟩,
     ⟨some 4, none, .mv (.const (.int .i64 0))⟩,
     ⟨some 5, none, .mv (.tmp 19)⟩])
   .ret)
  .skip))
 (.seq (.ops [⟨some 20, none, .mv (.tmp 0)⟩,
   ⟨some 21, none, .mv (.tmp 6)⟩,
   ⟨some 22, none, .ia 5 (.tmp 20) (.tmp 21)⟩,
   ⟨some 23, none, .load true 5 (.tmp 22)⟩,
   ⟨some 24, none, .call (.func 98) [(.tmp 23)]⟩,
   ⟨some 4, none, .mv (.tmp 24)⟩,
   ⟨some 5, none, .mv (.const (.int .i64 0))⟩])
 .ret)))))
theorem C44_ok : Try.f44.body.bind (comp Try.prog) = some C44 := by kernel_rfl
theorem C44_res : compRs Try.prog Try.f44.results.toList = some [.tmp 4, .tmp 5] := by kernel_rfl
theorem C44_nm : (Try.f44.name == "runtime.NumGoroutine") = false := by kernel_rfl
theorem C44_fn {a0 a1 : AV} {H : Heap} {Q : AV → Heap → Prop} (h : vc Try.prog C44 (vcEnd [.tmp 4, .tmp 5] Q) H [a0, a1, .any, .any, .any, .any, .any, .any, .any, .any, .any, .any, .any, .any, .any, .any, .any, .any, .any, .any, .any, .any, .any, .any, .any]) : Runs Try.prog 44 [a0, a1] H Q :=
  @fn_go Try.prog mixed 44 Try.f44 C44 [.tmp 4, .tmp 5] Try.func44 C44_ok C44_res C44_nm 25 Try.ntmps44 [a0, a1] [a0, a1, .any, .any, .any, .any, .any, .any, .any, .any, .any, .any, .any, .any, .any, .any, .any, .any, .any, .any, .any, .any, .any, .any, .any] H Q h 23 (by kernel_rfl) (by kernel_rfl)

/-- laws.FnExactMeritOf -/
def C11 : CC :=
 (.seq (.ops [⟨some 4, none, .mv (.const (.bool false))⟩])
 (.seq (.seq (.ops [⟨some 11, none, .mv (.tmp 1)⟩,
    ⟨some 12, none, .len true (.tmp 11)⟩,
    ⟨some 13, none, .bin .gtr 0 (.tmp 12) (.const (.int .i64 1048576))⟩])
  (.cond (.tmp 13) (.seq (.ops [⟨some 4, none, .mv (.const (.bool true))⟩])
   .ret)
  .skip))
 (.seq (.ops [⟨some 5, none, .mv (.const (.int .i64 1048576))⟩])
 (.seq (.ops [⟨some 14, none, .mv (.tmp 0)⟩,
   ⟨some 15, none, .mv (.tmp 5)⟩,
   ⟨some 16, none, .call (.func 32) [(.tmp 14), (.tmp 15)]⟩,
   ⟨some 5, none, .mv (.tmp 16)⟩])
 (.seq (.seq (.ops [⟨some 17, none, .mv (.tmp 5)⟩,
    ⟨some 18, none, .bin .lss 0 (.tmp 17) (.const (.int .i64 0))⟩])
  (.cond (.tmp 18) (.seq (.ops [⟨some 4, none, .mv (.const (.bool true))⟩])
   .ret)
  .skip))
 (.seq (.ops [⟨some 20, none, .mv (.tmp 0)⟩,
   ⟨some 21, none, .call (.func 34) [(.tmp 20)]⟩,
   ⟨some 22, none, .mv (.tmp 1)⟩,
   ⟨some 23, none, .call (.func 43) [(.tmp 21), (.tmp 22)]⟩,
   ⟨some 19, none, .mv (.tmp 23)⟩,
   ⟨some 24, none, .ext (.tmp 19) 0⟩,
   ⟨some 25, none, .ext (.tmp 19) 1⟩,
   ⟨some 6, none, .mv (.tmp 24)⟩,
   ⟨some 7, none, .mv (.tmp 25)⟩])
 (.seq (.ops [⟨some 26, none, .mv (.tmp 0)⟩,
   ⟨some 27, none, .call (.func 34) [(.tmp 26)]⟩,
   ⟨some 8, none, .mv (.tmp 27)⟩])
 (.seq (.ops [⟨some 29, none, .mv (.tmp 8)⟩,
   ⟨some 30, none, .mv (.tmp 1)⟩,
   ⟨some 31, none, .call (.func 44) [(.tmp 29), (.tmp 30)]⟩,
   ⟨some 28, none, .mv (.tmp 31)⟩,
   ⟨some 32, none, .ext (.tmp 28) 0⟩,
   ⟨some 33, none, .ext (.tmp 28) 1⟩,
   ⟨some 9, none, .mv (.tmp 32)⟩,
   ⟨some 10, none, .mv (.tmp 33)⟩])
 (.seq (.seq (.ops [⟨some 34, none, .mv (.tmp 9)⟩,
    ⟨some 35, none, .mv (.tmp 6)⟩,
    ⟨some 36, none, .bin .neq 0 (.tmp 34) (.tmp 35)⟩,
    ⟨some 37, none, .mv (.tmp 36)⟩,
    ⟨some 38, some (37, false), .mv (.tmp 10)⟩,
    ⟨some 39, some (37, false), .mv (.tmp 7)⟩,
    ⟨some 40, some (37, false), .bin .neq 0 (.tmp 38) (.tmp 39)⟩,
    ⟨some 41, none, .pick (.tmp 37) (.const (.bool true)) (.tmp 40)⟩])
  (.cond (.tmp 41) (.seq (.ops [⟨some 4, none, .mv (.const (.bool false))⟩])
   .ret)
  .skip))
 (.seq (.seq (.ops [⟨some 42, none, .mv (.tmp 8)⟩,
    ⟨some 43, none, .mv (.tmp 0)⟩,
    ⟨some 44, none, .call (.func 34) [(.tmp 43)]⟩,
    ⟨some 45, none, .call (.func 36) [(.tmp 42), (.tmp 44)]⟩,
    ⟨some 46, none, .not (.tmp 45)⟩])
  (.cond (.tmp 46) (.seq (.ops [⟨some 4, none, .mv (.const (.bool false))⟩])
   .ret)
  .skip))
 (.seq (.ops [⟨some 4, none, .mv (.const (.bool true))⟩])
 .ret)))))))))))
theorem C11_ok : Try.f11.body.bind (comp Try.prog) = some C11 := by kernel_rfl
theorem C11_res : compRs Try.prog Try.f11.results.toList = some [.tmp 4] := by kernel_rfl
theorem C11_nm : (Try.f11.name == "runtime.NumGoroutine") = false := by kernel_rfl
theorem C11_fn {a0 a1 : AV} {H : Heap} {Q : AV → Heap → Prop} (h : vc Try.prog C11 (vcEnd [.tmp 4] Q) H [a0, a1, .any, .any, .any, .any, .any, .any, .any, .any, .any, .any, .any, .any, .any, .any, .any, .any, .any, .any, .any, .any, .any, .any, .any, .any, .any, .any, .any, .any, .any, .any, .any, .any, .any, .any, .any, .any, .any, .any, .any, .any, .any, .any, .any, .any, .any]) : Runs Try.prog 11 [a0, a1] H Q :=
  @fn_go Try.prog mixed 11 Try.f11 C11 [.tmp 4] Try.func11 C11_ok C11_res C11_nm 47 Try.ntmps11 [a0, a1] [a0, a1, .any, .any, .any, .any, .any, .any, .any, .any, .any, .any, .any, .any, .any, .any, .any, .any, .any, .any, .any, .any, .any, .any, .any, .any, .any, .any, .any, .any, .any, .any, .any, .any, .any, .any, .any, .any, .any, .any, .any, .any, .any, .any, .any, .any, .any] H Q h 45 (by kernel_rfl) (by kernel_rfl)

/-- spec.TotalsByKind -/
def C45 : CC :=
 (.seq (.ops [⟨some 2, none, .mv (.const (.slice none 0 0))⟩,
   ⟨some 3, none, .mv (.const (.int .i64 0))⟩])
 (.seq (.seq (.ops [⟨some 7, none, .mv (.tmp 0)⟩,
    ⟨some 8, none, .call (.func 18) [(.tmp 7)]⟩,
    ⟨some 9, none, .not (.tmp 8)⟩])
  (.cond (.tmp 9) (.seq (.ops [⟨some 2, none, .mv (.const (.slice none 0 0))⟩,
     ⟨some 3, none, .mv (.const (.int .i64 1))⟩])
   .ret)
  .skip))
 (.seq (.ops [⟨some 10, none, .lit 1 [(.const (.int .i64 0)), (.const (.int .i64 0)), (.const (.int .i64 0))]⟩,
   ⟨some 4, none, .mv (.tmp 10)⟩])
 (.seq (.seq (.ops [⟨some 5, none, .mv (.const (.int .i64 0))⟩])
  (.block 0 (.loop (.seq (.seq (.ops [⟨some 11, none, .mv (.tmp 5)⟩,
       ⟨some 12, none, .mv (.tmp 0)⟩,
       ⟨some 13, none, .len false (.tmp 12)⟩,
       ⟨some 14, none, .bin .lss 0 (.tmp 11) (.tmp 13)⟩])
     (.cond (.tmp 14) .skip
     (.exit 0)))
    (.seq (.block 1 (.seq (.ops [⟨some 17, none, .mv (.tmp 0)⟩,
        ⟨some 18, none, .mv (.tmp 5)⟩,
        ⟨some 19, none, .ia 3 (.tmp 17) (.tmp 18)⟩,
        ⟨some 20, none, .fa 1 (.tmp 19)⟩,
        ⟨some 21, none, .load false 1 (.tmp 20)⟩,
        ⟨some 6, none, .mv (.tmp 21)⟩])
      (.draw 12 [⟨some 22, none, .mv (.tmp 4)⟩,
       ⟨some 23, none, .mv (.tmp 6)⟩,
       ⟨some 24, none, .mv (.tmp 4)⟩,
       ⟨some 25, none, .mv (.tmp 6)⟩,
       ⟨some 26, none, .ia 1 (.tmp 24) (.tmp 25)⟩,
       ⟨some 27, none, .load false 1 (.tmp 26)⟩,
       ⟨some 28, none, .mv (.tmp 0)⟩,
       ⟨some 29, none, .mv (.tmp 5)⟩,
       ⟨some 30, none, .ia 3 (.tmp 28) (.tmp 29)⟩,
       ⟨some 31, none, .fa 2 (.tmp 30)⟩,
       ⟨some 32, none, .load false 1 (.tmp 31)⟩,
       ⟨some 33, none, .bin .add 0 (.tmp 27) (.tmp 32)⟩,
       ⟨some 34, none, .ia 1 (.tmp 22) (.tmp 23)⟩,
       ⟨none, none, .store 1 (.tmp 34) (.tmp 33)⟩])))
    (.ops [⟨some 15, none, .mv (.tmp 5)⟩,
     ⟨some 16, none, .bin .add 0 (.tmp 15) (.const (.int .i64 1))⟩,
     ⟨some 5, none, .mv (.tmp 16)⟩]))))))
 (.seq (.ops [⟨some 35, none, .mv (.tmp 4)⟩,
   ⟨some 2, none, .mv (.tmp 35)⟩,
   ⟨some 3, none, .mv (.const (.int .i64 0))⟩])
 .ret)))))
theorem C45_ok : Try.f45.body.bind (comp Try.prog) = some C45 := by kernel_rfl
theorem C45_res : compRs Try.prog Try.f45.results.toList = some [.tmp 2, .tmp 3] := by kernel_rfl
theorem C45_nm : (Try.f45.name == "runtime.NumGoroutine") = false := by kernel_rfl
theorem C45_fn {a0 : AV} {H : Heap} {Q : AV → Heap → Prop} (h : vc Try.prog C45 (vcEnd [.tmp 2, .tmp 3] Q) H [a0, .any, .any, .any, .any, .any, .any, .any, .any, .any, .any, .any, .any, .any, .any, .any, .any, .any, .any, .any, .any, .any, .any, .any, .any, .any, .any, .any, .any, .any, .any, .any, .any, .any, .any, .any]) : Runs Try.prog 45 [a0] H Q :=
  @fn_go Try.prog mixed 45 Try.f45 C45 [.tmp 2, .tmp 3] Try.func45 C45_ok C45_res C45_nm 36 Try.ntmps45 [a0] [a0, .any, .any, .any, .any, .any, .any, .any, .any, .any, .any, .any, .any, .any, .any, .any, .any, .any, .any, .any, .any, .any, .any, .any, .any, .any, .any, .any, .any, .any, .any, .any, .any, .any, .any, .any] H Q h 35 (by kernel_rfl) (by kernel_rfl)

/-- impl.TotalsByKind -/
def C46 : CC :=
 (.seq (.ops [⟨some 2, none, .mv (.const (.slice none 0 0))⟩,
   ⟨some 3, none, .mv (.const (.int .i64 0))⟩])
 (.seq (.seq (.ops [⟨some 7, none, .mv (.tmp 0)⟩,
    ⟨some 8, none, .call (.func 20) [(.tmp 7)]⟩,
    ⟨some 9, none, .not (.tmp 8)⟩])
  (.cond (.tmp 9) (.seq (.ops [⟨some 2, none, .mv (.const (.slice none 0 0))⟩,
     ⟨some 3, none, .mv (.const (.int .i64 1))⟩])
   .ret)
  .skip))
 (.seq (.ops [⟨some 10, none, .mks [.int .i64 0] 8 (.const (.int .i64 3))⟩,
   ⟨some 4, none, .mv (.tmp 10)⟩])
 (.seq (.seq (.ops [⟨some 11, none, .mv (.tmp 0)⟩,
    ⟨some 12, none, .len false (.tmp 11)⟩,
    ⟨some 13, none, .mv (.const (.int .i64 0))⟩])
  (.block 0 (.loop (.seq (.ops [⟨some 14, none, .bin .lss 0 (.tmp 13) (.tmp 12)⟩])
    (.seq (.cond (.tmp 14) .skip
     (.exit 0))
    (.seq (.block 1 (.seq (.ops [⟨some 15, none, .ia 3 (.tmp 11) (.tmp 13)⟩,
        ⟨some 16, none, .load true 3 (.tmp 15)⟩,
        ⟨some 6, none, .alloc [.string ⟨#[]⟩, .int .i64 0, .int .i64 0]⟩,
        ⟨none, none, .store 3 (.tmp 6) (.tmp 16)⟩])
      (.draw 8 [⟨some 17, none, .mv (.tmp 4)⟩,
       ⟨some 18, none, .fa 1 (.tmp 6)⟩,
       ⟨some 19, none, .load false 1 (.tmp 18)⟩,
       ⟨some 20, none, .ia 1 (.tmp 17) (.tmp 19)⟩,
       ⟨some 21, none, .load false 1 (.tmp 20)⟩,
       ⟨some 22, none, .fa 2 (.tmp 6)⟩,
       ⟨some 23, none, .load false 1 (.tmp 22)⟩,
       ⟨some 24, none, .bin .add 0 (.tmp 21) (.tmp 23)⟩,
       ⟨some 25, none, .ia 1 (.tmp 17) (.tmp 19)⟩,
       ⟨none, none, .store 1 (.tmp 25) (.tmp 24)⟩])))
    (.ops [⟨some 26, none, .bin .add 0 (.tmp 13) (.const (.int .i64 1))⟩,
     ⟨some 13, none, .mv (.tmp 26)⟩])))))))
 (.seq (.ops [⟨some 27, none, .mv (.tmp 4)⟩,
   ⟨some 2, none, .mv (.tmp 27)⟩,
   ⟨some 3, none, .mv (.const (.int .i64 0))⟩])
 .ret)))))
theorem C46_ok : Try.f46.body.bind (comp Try.prog) = some C46 := by kernel_rfl
theorem C46_res : compRs Try.prog Try.f46.results.toList = some [.tmp 2, .tmp 3] := by kernel_rfl
theorem C46_nm : (Try.f46.name == "runtime.NumGoroutine") = false := by kernel_rfl
theorem C46_fn {a0 : AV} {H : Heap} {Q : AV → Heap → Prop} (h : vc Try.prog C46 (vcEnd [.tmp 2, .tmp 3] Q) H [a0, .any, .any, .any, .any, .any, .any, .any, .any, .any, .any, .any, .any, .any, .any, .any, .any, .any, .any, .any, .any, .any, .any, .any, .any, .any, .any, .any]) : Runs Try.prog 46 [a0] H Q :=
  @fn_go Try.prog mixed 46 Try.f46 C46 [.tmp 2, .tmp 3] Try.func46 C46_ok C46_res C46_nm 28 Try.ntmps46 [a0] [a0, .any, .any, .any, .any, .any, .any, .any, .any, .any, .any, .any, .any, .any, .any, .any, .any, .any, .any, .any, .any, .any, .any, .any, .any, .any, .any, .any] H Q h 27 (by kernel_rfl) (by kernel_rfl)

/-- laws.eqInt64S -/
def C47 : CC :=
 (.seq (.ops [⟨some 4, none, .mv (.const (.bool false))⟩])
 (.seq (.seq (.ops [⟨some 6, none, .mv (.tmp 0)⟩,
    ⟨some 7, none, .len false (.tmp 6)⟩,
    ⟨some 8, none, .mv (.tmp 1)⟩,
    ⟨some 9, none, .len false (.tmp 8)⟩,
    ⟨some 10, none, .bin .neq 0 (.tmp 7) (.tmp 9)⟩])
  (.cond (.tmp 10) (.seq (.ops [⟨some 4, none, .mv (.const (.bool false))⟩])
   .ret)
  .skip))
 (.seq (.seq (.ops [⟨some 5, none, .mv (.const (.int .i64 0))⟩])
  (.block 0 (.loop (.seq (.seq (.ops [⟨some 11, none, .mv (.tmp 5)⟩,
       ⟨some 12, none, .mv (.tmp 0)⟩,
       ⟨some 13, none, .len false (.tmp 12)⟩,
       ⟨some 14, none, .bin .lss 0 (.tmp 11) (.tmp 13)⟩])
     (.cond (.tmp 14) .skip
     (.exit 0)))
    (.seq (.block 1 (.seq (.draw 9 [⟨some 17, none, .mv (.tmp 0)⟩,
        ⟨some 18, none, .mv (.tmp 5)⟩,
        ⟨some 19, none, .ia 1 (.tmp 17) (.tmp 18)⟩,
        ⟨some 20, none, .load false 1 (.tmp 19)⟩,
        ⟨some 21, none, .mv (.tmp 1)⟩,
        ⟨some 22, none, .mv (.tmp 5)⟩,
        ⟨some 23, none, .ia 1 (.tmp 21) (.tmp 22)⟩,
        ⟨some 24, none, .load false 1 (.tmp 23)⟩,
        ⟨some 25, none, .bin .neq 0 (.tmp 20) (.tmp 24)⟩])
      (.cond (.tmp 25) (.seq (.ops [⟨some 4, none, .mv (.const (.bool false))⟩])
       .ret)
      .skip)))
    (.ops [⟨some 15, none, .mv (.tmp 5)⟩,
     ⟨some 16, none, .bin .add 0 (.tmp 15) (.const (.int .i64 1))⟩,
     ⟨some 5, none, .mv (.tmp 16)⟩]))))))
 (.seq (.ops [⟨some 4, none, .mv (.const (.bool true))⟩])
 .ret))))
theorem C47_ok : Try.f47.body.bind (comp Try.prog) = some C47 := by kernel_rfl
theorem C47_res : compRs Try.prog Try.f47.results.toList = some [.tmp 4] := by kernel_rfl
theorem C47_nm : (Try.f47.name == "runtime.NumGoroutine") = false := by kernel_rfl
theorem C47_fn {a0 a1 : AV} {H : Heap} {Q : AV → Heap → Prop} (h : vc Try.prog C47 (vcEnd [.tmp 4] Q) H [a0, a1, .any, .any, .any, .any, .any, .any, .any, .any, .any, .any, .any, .any, .any, .any, .any, .any, .any, .any, .any, .any, .any, .any, .any, .any]) : Runs Try.prog 47 [a0, a1] H Q :=
  @fn_go Try.prog mixed 47 Try.f47 C47 [.tmp 4] Try.func47 C47_ok C47_res C47_nm 26 Try.ntmps47 [a0, a1] [a0, a1, .any, .any, .any, .any, .any, .any, .any, .any, .any, .any, .any, .any, .any, .any, .any, .any, .any, .any, .any, .any, .any, .any, .any, .any] H Q h 24 (by kernel_rfl) (by kernel_rfl)

/-- laws.markText -/
def C105 : CC :=
 (.seq (.ops [⟨some 2, none, .mv (.const (.string ⟨#[]⟩))⟩])
 (.seq (.seq (.ops [⟨some 4, none, .mv (.tmp 0)⟩,
    ⟨some 5, none, .bin .leq 0 (.tmp 4) (.const (.int .i64 0))⟩])
  (.cond (.tmp 5) (.seq (.ops [⟨some 2, none, .mv (.const (.string ⟨#[109, 48]⟩))⟩])
   .ret)
  .skip))
 (.seq (.ops [⟨some 3, none, .mv (.const (.string ⟨#[]⟩))⟩])
 (.seq (.block 0 (.loop (.seq (.seq (.ops [⟨some 6, none, .mv (.tmp 0)⟩,
       ⟨some 7, none, .bin .gtr 0 (.tmp 6) (.const (.int .i64 0))⟩])
     (.cond (.tmp 7) .skip
     (.exit 0)))
    (.block 1 (.seq (.ops [⟨some 8, none, .mv (.tmp 0)⟩,
       ⟨some 9, none, .bin .rem 0 (.tmp 8) (.const (.int .i64 10))⟩,
       ⟨some 10, none, .bin .add 0 (.const (.int .i64 48)) (.tmp 9)⟩,
       ⟨some 11, none, .conv .u8 (.tmp 10)⟩,
       ⟨some 12, none, .lit 1 [(.tmp 11)]⟩,
       ⟨some 13, none, .bstr (.tmp 12)⟩,
       ⟨some 14, none, .mv (.tmp 3)⟩,
       ⟨some 15, none, .bin .add 0 (.tmp 13) (.tmp 14)⟩,
       ⟨some 3, none, .mv (.tmp 15)⟩])
     (.ops [⟨some 16, none, .mv (.tmp 0)⟩,
      ⟨some 17, none, .bin .quo 0 (.tmp 16) (.const (.int .i64 10))⟩,
      ⟨some 0, none, .mv (.tmp 17)⟩]))))))
 (.seq (.ops [⟨some 18, none, .mv (.tmp 3)⟩,
   ⟨some 19, none, .bin .add 0 (.const (.string ⟨#[109]⟩)) (.tmp 18)⟩,
   ⟨some 2, none, .mv (.tmp 19)⟩])
 .ret)))))
theorem C105_ok : Try.f105.body.bind (comp Try.prog) = some C105 := by kernel_rfl
theorem C105_res : compRs Try.prog Try.f105.results.toList = some [.tmp 2] := by kernel_rfl
theorem C105_nm : (Try.f105.name == "runtime.NumGoroutine") = false := by kernel_rfl
theorem C105_fn {a0 : AV} {H : Heap} {Q : AV → Heap → Prop} (h : vc Try.prog C105 (vcEnd [.tmp 2] Q) H [a0, .any, .any, .any, .any, .any, .any, .any, .any, .any, .any, .any, .any, .any, .any, .any, .any, .any, .any, .any]) : Runs Try.prog 105 [a0] H Q :=
  @fn_go Try.prog mixed 105 Try.f105 C105 [.tmp 2] Try.func105 C105_ok C105_res C105_nm 20 Try.ntmps105 [a0] [a0, .any, .any, .any, .any, .any, .any, .any, .any, .any, .any, .any, .any, .any, .any, .any, .any, .any, .any, .any] H Q h 19 (by kernel_rfl) (by kernel_rfl)

/-- laws.markSecurityS -/
def C48 : CC :=
 (.seq (.ops [⟨some 4, none, .mv (.const (.int .i64 0))⟩])
 (.seq (.seq (.ops [⟨some 5, none, .mv (.const (.int .i64 0))⟩])
  (.block 0 (.loop (.seq (.seq (.ops [⟨some 6, none, .mv (.tmp 5)⟩,
       ⟨some 7, none, .mv (.tmp 0)⟩,
       ⟨some 8, none, .len false (.tmp 7)⟩,
       ⟨some 9, none, .bin .lss 0 (.tmp 6) (.tmp 8)⟩])
     (.cond (.tmp 9) .skip
     (.exit 0)))
    (.seq (.block 1 (.seq (.ops [⟨some 12, none, .mv (.tmp 0)⟩,
        ⟨some 13, none, .mv (.tmp 5)⟩,
        ⟨some 14, none, .mv (.tmp 1)⟩,
        ⟨some 15, none, .call (.func 105) [(.tmp 14)]⟩,
        ⟨some 16, none, .ia 3 (.tmp 12) (.tmp 13)⟩,
        ⟨some 17, none, .fa 0 (.tmp 16)⟩,
        ⟨none, none, .store 1 (.tmp 17) (.tmp 15)⟩])
      (.seq (.ops [⟨some 18, none, .mv (.tmp 1)⟩,
        ⟨some 19, none, .bin .add 0 (.tmp 18) (.const (.int .i64 1))⟩,
        ⟨some 1, none, .mv (.tmp 19)⟩])
      (.seq (.ops [⟨some 20, none, .mv (.tmp 0)⟩,
        ⟨some 21, none, .mv (.tmp 5)⟩,
        ⟨some 22, none, .mv (.tmp 1)⟩,
        ⟨some 23, none, .ia 3 (.tmp 20) (.tmp 21)⟩,
        ⟨some 24, none, .fa 1 (.tmp 23)⟩,
        ⟨none, none, .store 1 (.tmp 24) (.tmp 22)⟩])
      (.seq (.ops [⟨some 25, none, .mv (.tmp 1)⟩,
        ⟨some 26, none, .bin .add 0 (.tmp 25) (.const (.int .i64 1))⟩,
        ⟨some 1, none, .mv (.tmp 26)⟩])
      (.seq (.ops [⟨some 27, none, .mv (.tmp 0)⟩,
        ⟨some 28, none, .mv (.tmp 5)⟩,
        ⟨some 29, none, .mv (.tmp 1)⟩,
        ⟨some 30, none, .ia 3 (.tmp 27) (.tmp 28)⟩,
        ⟨some 31, none, .fa 2 (.tmp 30)⟩,
        ⟨none, none, .store 1 (.tmp 31) (.tmp 29)⟩])
      (.ops [⟨some 32, none, .mv (.tmp 1)⟩,
       ⟨some 33, none, .bin .add 0 (.tmp 32) (.const (.int .i64 1))⟩,
       ⟨some 1, none, .mv (.tmp 33)⟩])))))))
    (.ops [⟨some 10, none, .mv (.tmp 5)⟩,
     ⟨some 11, none, .bin .add 0 (.tmp 10) (.const (.int .i64 1))⟩,
     ⟨some 5, none, .mv (.tmp 11)⟩]))))))
 (.seq (.ops [⟨some 34, none, .mv (.tmp 1)⟩,
   ⟨some 4, none, .mv (.tmp 34)⟩])
 .ret)))
theorem C48_ok : Try.f48.body.bind (comp Try.prog) = some C48 := by kernel_rfl
theorem C48_res : compRs Try.prog Try.f48.results.toList = some [.tmp 4] := by kernel_rfl
theorem C48_nm : (Try.f48.name == "runtime.NumGoroutine") = false := by kernel_rfl
theorem C48_fn {a0 a1 : AV} {H : Heap} {Q : AV → Heap → Prop} (h : vc Try.prog C48 (vcEnd [.tmp 4] Q) H [a0, a1, .any, .any, .any, .any, .any, .any, .any, .any, .any, .any, .any, .any, .any, .any, .any, .any, .any, .any, .any, .any, .any, .any, .any, .any, .any, .any, .any, .any, .any, .any, .any, .any, .any]) : Runs Try.prog 48 [a0, a1] H Q :=
  @fn_go Try.prog mixed 48 Try.f48 C48 [.tmp 4] Try.func48 C48_ok C48_res C48_nm 35 Try.ntmps48 [a0, a1] [a0, a1, .any, .any, .any, .any, .any, .any, .any, .any, .any, .any, .any, .any, .any, .any, .any, .any, .any, .any, .any, .any, .any, .any, .any, .any, .any, .any, .any, .any, .any, .any, .any, .any, .any] H Q h 33 (by kernel_rfl) (by kernel_rfl)

/-- laws.markInt64S -/
def C49 : CC :=
 (.seq (.ops [⟨some 4, none, .mv (.const (.int .i64 0))⟩])
 (.seq (.seq (.ops [⟨some 5, none, .mv (.const (.int .i64 0))⟩])
  (.block 0 (.loop (.seq (.seq (.ops [⟨some 6, none, .mv (.tmp 5)⟩,
       ⟨some 7, none, .mv (.tmp 0)⟩,
       ⟨some 8, none, .len false (.tmp 7)⟩,
       ⟨some 9, none, .bin .lss 0 (.tmp 6) (.tmp 8)⟩])
     (.cond (.tmp 9) .skip
     (.exit 0)))
    (.seq (.block 1 (.seq (.ops [⟨some 12, none, .mv (.tmp 0)⟩,
        ⟨some 13, none, .mv (.tmp 5)⟩,
        ⟨some 14, none, .mv (.tmp 1)⟩,
        ⟨some 15, none, .ia 1 (.tmp 12) (.tmp 13)⟩,
        ⟨none, none, .store 1 (.tmp 15) (.tmp 14)⟩])
      (.ops [⟨some 16, none, .mv (.tmp 1)⟩,
       ⟨some 17, none, .bin .add 0 (.tmp 16) (.const (.int .i64 1))⟩,
       ⟨some 1, none, .mv (.tmp 17)⟩])))
    (.ops [⟨some 10, none, .mv (.tmp 5)⟩,
     ⟨some 11, none, .bin .add 0 (.tmp 10) (.const (.int .i64 1))⟩,
     ⟨some 5, none, .mv (.tmp 11)⟩]))))))
 (.seq (.ops [⟨some 18, none, .mv (.tmp 1)⟩,
   ⟨some 4, none, .mv (.tmp 18)⟩])
 .ret)))
theorem C49_ok : Try.f49.body.bind (comp Try.prog) = some C49 := by kernel_rfl
theorem C49_res : compRs Try.prog Try.f49.results.toList = some [.tmp 4] := by kernel_rfl
theorem C49_nm : (Try.f49.name == "runtime.NumGoroutine") = false := by kernel_rfl
theorem C49_fn {a0 a1 : AV} {H : Heap} {Q : AV → Heap → Prop} (h : vc Try.prog C49 (vcEnd [.tmp 4] Q) H [a0, a1, .any, .any, .any, .any, .any, .any, .any, .any, .any, .any, .any, .any, .any, .any, .any, .any, .any]) : Runs Try.prog 49 [a0, a1] H Q :=
  @fn_go Try.prog mixed 49 Try.f49 C49 [.tmp 4] Try.func49 C49_ok C49_res C49_nm 19 Try.ntmps49 [a0, a1] [a0, a1, .any, .any, .any, .any, .any, .any, .any, .any, .any, .any, .any, .any, .any, .any, .any, .any, .any] H Q h 17 (by kernel_rfl) (by kernel_rfl)

/-- laws.heldInt64S -/
def C50 : CC :=
 (.seq (.ops [⟨some 4, none, .mv (.const (.int .i64 0))⟩])
 (.seq (.seq (.ops [⟨some 5, none, .mv (.const (.int .i64 0))⟩])
  (.block 0 (.loop (.seq (.seq (.ops [⟨some 6, none, .mv (.tmp 5)⟩,
       ⟨some 7, none, .mv (.tmp 0)⟩,
       ⟨some 8, none, .len false (.tmp 7)⟩,
       ⟨some 9, none, .bin .lss 0 (.tmp 6) (.tmp 8)⟩])
     (.cond (.tmp 9) .skip
     (.exit 0)))
    (.seq (.block 1 (.seq (.seq (.ops [⟨some 12, none, .mv (.tmp 0)⟩,
         ⟨some 13, none, .mv (.tmp 5)⟩,
         ⟨some 14, none, .ia 1 (.tmp 12) (.tmp 13)⟩,
         ⟨some 15, none, .load false 1 (.tmp 14)⟩,
         ⟨some 16, none, .mv (.tmp 1)⟩,
         ⟨some 17, none, .bin .neq 0 (.tmp 15) (.tmp 16)⟩])
       (.cond (.tmp 17) (.seq (.ops [⟨some 4, none, .mv (.const (.int .i64 (-1)))⟩])
        .ret)
       .skip))
      (.ops [⟨some 18, none, .mv (.tmp 1)⟩,
       ⟨some 19, none, .bin .add 0 (.tmp 18) (.const (.int .i64 1))⟩,
       ⟨some 1, none, .mv (.tmp 19)⟩])))
    (.ops [⟨some 10, none, .mv (.tmp 5)⟩,
     ⟨some 11, none, .bin .add 0 (.tmp 10) (.const (.int .i64 1))⟩,
     ⟨some 5, none, .mv (.tmp 11)⟩]))))))
 (.seq (.ops [⟨some 20, none, .mv (.tmp 1)⟩,
   ⟨some 4, none, .mv (.tmp 20)⟩])
 .ret)))
theorem C50_ok : Try.f50.body.bind (comp Try.prog) = some C50 := by kernel_rfl
theorem C50_res : compRs Try.prog Try.f50.results.toList = some [.tmp 4] := by kernel_rfl
theorem C50_nm : (Try.f50.name == "runtime.NumGoroutine") = false := by kernel_rfl
theorem C50_fn {a0 a1 : AV} {H : Heap} {Q : AV → Heap → Prop} (h : vc Try.prog C50 (vcEnd [.tmp 4] Q) H [a0, a1, .any, .any, .any, .any, .any, .any, .any, .any, .any, .any, .any, .any, .any, .any, .any, .any, .any, .any, .any]) : Runs Try.prog 50 [a0, a1] H Q :=
  @fn_go Try.prog mixed 50 Try.f50 C50 [.tmp 4] Try.func50 C50_ok C50_res C50_nm 21 Try.ntmps50 [a0, a1] [a0, a1, .any, .any, .any, .any, .any, .any, .any, .any, .any, .any, .any, .any, .any, .any, .any, .any, .any, .any, .any] H Q h 19 (by kernel_rfl) (by kernel_rfl)

/-- laws.FnExactTotalsByKind -/
def C12 : CC :=
 (.seq (.ops [⟨some 2, none, .mv (.const (.bool false))⟩])
 (.seq (.ops [⟨some 3, none, .mv (.const (.int .i64 1048576))⟩])
 (.seq (.ops [⟨some 14, none, .mv (.tmp 0)⟩,
   ⟨some 15, none, .mv (.tmp 3)⟩,
   ⟨some 16, none, .call (.func 17) [(.tmp 14), (.tmp 15)]⟩,
   ⟨some 3, none, .mv (.tmp 16)⟩])
 (.seq (.seq (.ops [⟨some 17, none, .mv (.tmp 3)⟩,
    ⟨some 18, none, .bin .lss 0 (.tmp 17) (.const (.int .i64 0))⟩])
  (.cond (.tmp 18) (.seq (.ops [⟨some 2, none, .mv (.const (.bool true))⟩])
   .ret)
  .skip))
 (.seq (.ops [⟨some 20, none, .mv (.tmp 0)⟩,
   ⟨some 21, none, .call (.func 19) [(.tmp 20)]⟩,
   ⟨some 22, none, .call (.func 45) [(.tmp 21)]⟩,
   ⟨some 19, none, .mv (.tmp 22)⟩,
   ⟨some 23, none, .ext (.tmp 19) 0⟩,
   ⟨some 24, none, .ext (.tmp 19) 1⟩,
   ⟨some 4, none, .mv (.tmp 23)⟩,
   ⟨some 5, none, .mv (.tmp 24)⟩])
 (.seq (.ops [⟨some 25, none, .mv (.tmp 0)⟩,
   ⟨some 26, none, .call (.func 19) [(.tmp 25)]⟩,
   ⟨some 6, none, .mv (.tmp 26)⟩])
 (.seq (.ops [⟨some 28, none, .mv (.tmp 6)⟩,
   ⟨some 29, none, .call (.func 46) [(.tmp 28)]⟩,
   ⟨some 27, none, .mv (.tmp 29)⟩,
   ⟨some 30, none, .ext (.tmp 27) 0⟩,
   ⟨some 31, none, .ext (.tmp 27) 1⟩,
   ⟨some 7, none, .mv (.tmp 30)⟩,
   ⟨some 8, none, .mv (.tmp 31)⟩])
 (.seq (.seq (.ops [⟨some 32, none, .mv (.tmp 7)⟩,
    ⟨some 33, none, .mv (.tmp 4)⟩,
    ⟨some 34, none, .call (.func 47) [(.tmp 32), (.tmp 33)]⟩,
    ⟨some 35, none, .not (.tmp 34)⟩,
    ⟨some 36, none, .mv (.tmp 35)⟩,
    ⟨some 37, some (36, false), .mv (.tmp 8)⟩,
    ⟨some 38, some (36, false), .mv (.tmp 5)⟩,
    ⟨some 39, some (36, false), .bin .neq 0 (.tmp 37) (.tmp 38)⟩,
    ⟨some 40, none, .pick (.tmp 36) (.const (.bool true)) (.tmp 39)⟩])
  (.cond (.tmp 40) (.seq (.ops [⟨some 2, none, .mv (.const (.bool false))⟩])
   .ret)
  .skip))
 (.seq (.seq (.ops [⟨some 41, none, .mv (.tmp 6)⟩,
    ⟨some 42, none, .mv (.tmp 0)⟩,
    ⟨some 43, none, .call (.func 19) [(.tmp 42)]⟩,
    ⟨some 44, none, .call (.func 21) [(.tmp 41), (.tmp 43)]⟩,
    ⟨some 45, none, .not (.tmp 44)⟩])
  (.cond (.tmp 45) (.seq (.ops [⟨some 2, none, .mv (.const (.bool false))⟩])
   .ret)
  .skip))
 (.seq (.ops [⟨some 9, none, .mv (.const (.int .i64 1))⟩])
 (.seq (.ops [⟨some 46, none, .mv (.tmp 6)⟩,
   ⟨some 47, none, .mv (.tmp 9)⟩,
   ⟨some 48, none, .call (.func 48) [(.tmp 46), (.tmp 47)]⟩,
   ⟨some 9, none, .mv (.tmp 48)⟩])
 (.seq (.seq (.ops [⟨some 49, none, .mv (.tmp 9)⟩,
    ⟨some 50, none, .bin .lss 0 (.tmp 49) (.const (.int .i64 0))⟩,
    ⟨some 51, none, .mv (.tmp 50)⟩,
    ⟨some 52, some (51, false), .mv (.tmp 7)⟩,
    ⟨some 53, some (51, false), .mv (.tmp 4)⟩,
    ⟨some 54, some (51, false), .call (.func 47) [(.tmp 52), (.tmp 53)]⟩,
    ⟨some 55, some (51, false), .not (.tmp 54)⟩,
    ⟨some 56, none, .pick (.tmp 51) (.const (.bool true)) (.tmp 55)⟩,
    ⟨some 57, none, .mv (.tmp 56)⟩,
    ⟨some 58, some (57, false), .mv (.tmp 8)⟩,
    ⟨some 59, some (57, false), .mv (.tmp 5)⟩,
    ⟨some 60, some (57, false), .bin .neq 0 (.tmp 58) (.tmp 59)⟩,
    ⟨some 61, none, .pick (.tmp 57) (.const (.bool true)) (.tmp 60)⟩])
  (.cond (.tmp 61) (.seq (.ops [⟨some 2, none, .mv (.const (.bool false))⟩])
   .ret)
  .skip))
 (.seq (.ops [⟨some 10, none, .mv (.const (.int .i64 1))⟩])
 (.seq (.ops [⟨some 62, none, .mv (.tmp 7)⟩,
   ⟨some 63, none, .mv (.tmp 10)⟩,
   ⟨some 64, none, .call (.func 49) [(.tmp 62), (.tmp 63)]⟩,
   ⟨some 10, none, .mv (.tmp 64)⟩])
 (.seq (.ops [⟨some 11, none, .mv (.const (.int .i64 1))⟩])
 (.seq (.ops [⟨some 65, none, .mv (.tmp 7)⟩,
   ⟨some 66, none, .mv (.tmp 11)⟩,
   ⟨some 67, none, .call (.func 50) [(.tmp 65), (.tmp 66)]⟩,
   ⟨some 11, none, .mv (.tmp 67)⟩])
 (.seq (.seq (.ops [⟨some 68, none, .mv (.tmp 11)⟩,
    ⟨some 69, none, .bin .lss 0 (.tmp 68) (.const (.int .i64 0))⟩])
  (.cond (.tmp 69) (.seq (.ops [⟨some 2, none, .mv (.const (.bool false))⟩])
   .ret)
  .skip))
 (.seq (.seq (.ops [⟨some 70, none, .mv (.tmp 11)⟩,
    ⟨some 71, none, .mv (.tmp 10)⟩,
    ⟨some 72, none, .bin .neq 0 (.tmp 70) (.tmp 71)⟩])
  (.cond (.tmp 72) (.seq (.ops [⟨some 2, none, .mv (.const (.bool false))⟩])
   .ret)
  .skip))
 (.seq (.ops [⟨some 74, none, .mv (.tmp 0)⟩,
   ⟨some 75, none, .call (.func 19) [(.tmp 74)]⟩,
   ⟨some 76, none, .call (.func 46) [(.tmp 75)]⟩,
   ⟨some 73, none, .mv (.tmp 76)⟩,
   ⟨some 77, none, .ext (.tmp 73) 0⟩,
   ⟨some 78, none, .ext (.tmp 73) 1⟩,
   ⟨some 12, none, .mv (.tmp 77)⟩,
   ⟨some 13, none, .mv (.tmp 78)⟩])
 (.seq (.seq (.ops [⟨some 79, none, .mv (.tmp 12)⟩,
    ⟨some 80, none, .mv (.tmp 4)⟩,
    ⟨some 81, none, .call (.func 47) [(.tmp 79), (.tmp 80)]⟩,
    ⟨some 82, none, .not (.tmp 81)⟩,
    ⟨some 83, none, .mv (.tmp 82)⟩,
    ⟨some 84, some (83, false), .mv (.tmp 13)⟩,
    ⟨some 85, some (83, false), .mv (.tmp 5)⟩,
    ⟨some 86, some (83, false), .bin .neq 0 (.tmp 84) (.tmp 85)⟩,
    ⟨some 87, none, .pick (.tmp 83) (.const (.bool true)) (.tmp 86)⟩])
  (.cond (.tmp 87) (.seq (.ops [⟨some 2, none, .mv (.const (.bool false))⟩])
   .ret)
  .skip))
 (.seq (.ops [⟨some 11, none, .mv (.const (.int .i64 1))⟩])
 (.seq (.ops [⟨some 88, none, .mv (.tmp 7)⟩,
   ⟨some 89, none, .mv (.tmp 11)⟩,
   ⟨some 90, none, .call (.func 50) [(.tmp 88), (.tmp 89)]⟩,
   ⟨some 11, none, .mv (.tmp 90)⟩])
 (.seq (.seq (.ops [⟨some 91, none, .mv (.tmp 11)⟩,
    ⟨some 92, none, .bin .lss 0 (.tmp 91) (.const (.int .i64 0))⟩])
  (.cond (.tmp 92) (.seq (.ops [⟨some 2, none, .mv (.const (.bool false))⟩])
   .ret)
  .skip))
 (.seq (.seq (.ops [⟨some 93, none, .mv (.tmp 11)⟩,
    ⟨some 94, none, .mv (.tmp 10)⟩,
    ⟨some 95, none, .bin .neq 0 (.tmp 93) (.tmp 94)⟩])
  (.cond (.tmp 95) (.seq (.ops [⟨some 2, none, .mv (.const (.bool false))⟩])
   .ret)
  .skip))
 (.seq (.ops [⟨some 2, none, .mv (.const (.bool true))⟩])
 .ret)))))))))))))))))))))))))
theorem C12_ok : Try.f12.body.bind (comp Try.prog) = some C12 := by kernel_rfl
theorem C12_res : compRs Try.prog Try.f12.results.toList = some [.tmp 2] := by kernel_rfl
theorem C12_nm : (Try.f12.name == "runtime.NumGoroutine") = false := by kernel_rfl
theorem C12_fn {a0 : AV} {H : Heap} {Q : AV → Heap → Prop} (h : vc Try.prog C12 (vcEnd [.tmp 2] Q) H [a0, .any, .any, .any, .any, .any, .any, .any, .any, .any, .any, .any, .any, .any, .any, .any, .any, .any, .any, .any, .any, .any, .any, .any, .any, .any, .any, .any, .any, .any, .any, .any, .any, .any, .any, .any, .any, .any, .any, .any, .any, .any, .any, .any, .any, .any, .any, .any, .any, .any, .any, .any, .any, .any, .any, .any, .any, .any, .any, .any, .any, .any, .any, .any, .any, .any, .any, .any, .any, .any, .any, .any, .any, .any, .any, .any, .any, .any, .any, .any, .any, .any, .any, .any, .any, .any, .any, .any, .any, .any, .any, .any, .any, .any, .any, .any]) : Runs Try.prog 12 [a0] H Q :=
  @fn_go Try.prog mixed 12 Try.f12 C12 [.tmp 2] Try.func12 C12_ok C12_res C12_nm 96 Try.ntmps12 [a0] [a0, .any, .any, .any, .any, .any, .any, .any, .any, .any, .any, .any, .any, .any, .any, .any, .any, .any, .any, .any, .any, .any, .any, .any, .any, .any, .any, .any, .any, .any, .any, .any, .any, .any, .any, .any, .any, .any, .any, .any, .any, .any, .any, .any, .any, .any, .any, .any, .any, .any, .any, .any, .any, .any, .any, .any, .any, .any, .any, .any, .any, .any, .any, .any, .any, .any, .any, .any, .any, .any, .any, .any, .any, .any, .any, .any, .any, .any, .any, .any, .any, .any, .any, .any, .any, .any, .any, .any, .any, .any, .any, .any, .any, .any, .any, .any] H Q h 95 (by kernel_rfl) (by kernel_rfl)

/-- spec.l22Code -/
def C106 : CC :=
 (.seq (.ops [⟨some 4, none, .mv (.const (.int .i64 0))⟩])
 (.seq (.seq (.ops [⟨some 5, none, .mv (.tmp 0)⟩,
    ⟨some 6, none, .call (.func 33) [(.tmp 5)]⟩,
    ⟨some 7, none, .not (.tmp 6)⟩])
  (.cond (.tmp 7) (.seq (.ops [⟨some 4, none, .mv (.const (.int .i64 1))⟩])
   .ret)
  .skip))
 (.seq (.seq (.ops [⟨some 8, none, .mv (.tmp 1)⟩,
    ⟨some 9, none, .call (.func 58) [(.tmp 8)]⟩,
    ⟨some 10, none, .not (.tmp 9)⟩])
  (.cond (.tmp 10) (.seq (.ops [⟨some 4, none, .mv (.const (.int .i64 2))⟩])
   .ret)
  .skip))
 (.seq (.ops [⟨some 4, none, .mv (.const (.int .i64 0))⟩])
 .ret))))
theorem C106_ok : Try.f106.body.bind (comp Try.prog) = some C106 := by kernel_rfl
theorem C106_res : compRs Try.prog Try.f106.results.toList = some [.tmp 4] := by kernel_rfl
theorem C106_nm : (Try.f106.name == "runtime.NumGoroutine") = false := by kernel_rfl
theorem C106_fn {a0 a1 : AV} {H : Heap} {Q : AV → Heap → Prop} (h : vc Try.prog C106 (vcEnd [.tmp 4] Q) H [a0, a1, .any, .any, .any, .any, .any, .any, .any, .any, .any]) : Runs Try.prog 106 [a0, a1] H Q :=
  @fn_go Try.prog mixed 106 Try.f106 C106 [.tmp 4] Try.func106 C106_ok C106_res C106_nm 11 Try.ntmps106 [a0, a1] [a0, a1, .any, .any, .any, .any, .any, .any, .any, .any, .any] H Q h 9 (by kernel_rfl) (by kernel_rfl)

/-- spec.CostsCovered -/
def C51 : CC :=
 (.seq (.ops [⟨some 4, none, .mv (.const (.bool false))⟩,
   ⟨some 5, none, .mv (.const (.int .i64 0))⟩])
 (.seq (.ops [⟨some 9, none, .mv (.tmp 0)⟩,
   ⟨some 10, none, .mv (.tmp 1)⟩,
   ⟨some 11, none, .call (.func 106) [(.tmp 9), (.tmp 10)]⟩,
   ⟨some 6, none, .mv (.tmp 11)⟩])
 (.seq (.seq (.ops [⟨some 12, none, .mv (.tmp 6)⟩,
    ⟨some 13, none, .bin .neq 0 (.tmp 12) (.const (.int .i64 0))⟩])
  (.cond (.tmp 13) (.seq (.ops [⟨some 14, none, .mv (.tmp 6)⟩,
     ⟨some 4, none, .mv (.const (.bool false))⟩,
     ⟨some 5, none, .mv (.tmp 14)⟩])
   .ret)
  .skip))
 (.seq (.ops [⟨some 7, none, .mv (.const (.int .i64 0))⟩])
 (.seq (.seq (.ops [⟨some 8, none, .mv (.const (.int .i64 0))⟩])
  (.block 0 (.loop (.seq (.seq (.ops [⟨some 15, none, .mv (.tmp 8)⟩,
       ⟨some 16, none, .mv (.tmp 0)⟩,
       ⟨some 17, none, .len false (.tmp 16)⟩,
       ⟨some 18, none, .bin .lss 0 (.tmp 15) (.tmp 17)⟩])
     (.cond (.tmp 18) .skip
     (.exit 0)))
    (.seq (.block 1 (.ops [⟨some 21, none, .mv (.tmp 7)⟩,
       ⟨some 22, none, .mv (.tmp 0)⟩,
       ⟨some 23, none, .mv (.tmp 8)⟩,
       ⟨some 24, none, .ia 5 (.tmp 22) (.tmp 23)⟩,
       ⟨some 25, none, .fa 4 (.tmp 24)⟩,
       ⟨some 26, none, .load false 1 (.tmp 25)⟩,
       ⟨some 27, none, .bin .add 0 (.tmp 21) (.tmp 26)⟩,
       ⟨some 7, none, .mv (.tmp 27)⟩]))
    (.ops [⟨some 19, none, .mv (.tmp 8)⟩,
     ⟨some 20, none, .bin .add 0 (.tmp 19) (.const (.int .i64 1))⟩,
     ⟨some 8, none, .mv (.tmp 20)⟩]))))))
 (.seq (.ops [⟨some 28, none, .mv (.tmp 7)⟩,
   ⟨some 29, none, .mv (.tmp 1)⟩,
   ⟨some 30, none, .bin .leq 0 (.tmp 28) (.tmp 29)⟩,
   ⟨some 4, none, .mv (.tmp 30)⟩,
   ⟨some 5, none, .mv (.const (.int .i64 0))⟩])
 .ret))))))
theorem C51_ok : Try.f51.body.bind (comp Try.prog) = some C51 := by kernel_rfl
theorem C51_res : compRs Try.prog Try.f51.results.toList = some [.tmp 4, .tmp 5] := by kernel_rfl
theorem C51_nm : (Try.f51.name == "runtime.NumGoroutine") = false := by kernel_rfl
theorem C51_fn {a0 a1 : AV} {H : Heap} {Q : AV → Heap → Prop} (h : vc Try.prog C51 (vcEnd [.tmp 4, .tmp 5] Q) H [a0, a1, .any, .any, .any, .any, .any, .any, .any, .any, .any, .any, .any, .any, .any, .any, .any, .any, .any, .any, .any, .any, .any, .any, .any, .any, .any, .any, .any, .any, .any]) : Runs Try.prog 51 [a0, a1] H Q :=
  @fn_go Try.prog mixed 51 Try.f51 C51 [.tmp 4, .tmp 5] Try.func51 C51_ok C51_res C51_nm 31 Try.ntmps51 [a0, a1] [a0, a1, .any, .any, .any, .any, .any, .any, .any, .any, .any, .any, .any, .any, .any, .any, .any, .any, .any, .any, .any, .any, .any, .any, .any, .any, .any, .any, .any, .any, .any] H Q h 29 (by kernel_rfl) (by kernel_rfl)

/-- impl.claimed -/
def C107 : CC :=
 (.seq (.ops [⟨some 4, none, .mv (.const (.int .i64 0))⟩])
 (.seq (.block 0 (.seq (.ops [⟨some 6, none, .mv (.tmp 0)⟩,
     ⟨some 7, none, .call (.func 35) [(.tmp 6)]⟩,
     ⟨some 8, none, .not (.tmp 7)⟩,
     ⟨some 5, none, .mv (.tmp 8)⟩])
   (.cond (.tmp 5) (.seq (.ops [⟨some 4, none, .mv (.const (.int .i64 1))⟩])
    .ret)
   (.seq (.ops [⟨some 10, none, .mv (.tmp 1)⟩,
      ⟨some 11, none, .call (.func 60) [(.tmp 10)]⟩,
      ⟨some 12, none, .not (.tmp 11)⟩,
      ⟨some 9, none, .mv (.tmp 12)⟩])
    (.cond (.tmp 9) (.seq (.ops [⟨some 4, none, .mv (.const (.int .i64 2))⟩])
     .ret)
    .skip)))))
 (.seq (.ops [⟨some 4, none, .mv (.const (.int .i64 0))⟩])
 .ret)))
theorem C107_ok : Try.f107.body.bind (comp Try.prog) = some C107 := by kernel_rfl
theorem C107_res : compRs Try.prog Try.f107.results.toList = some [.tmp 4] := by kernel_rfl
theorem C107_nm : (Try.f107.name == "runtime.NumGoroutine") = false := by kernel_rfl
theorem C107_fn {a0 a1 : AV} {H : Heap} {Q : AV → Heap → Prop} (h : vc Try.prog C107 (vcEnd [.tmp 4] Q) H [a0, a1, .any, .any, .any, .any, .any, .any, .any, .any, .any, .any, .any]) : Runs Try.prog 107 [a0, a1] H Q :=
  @fn_go Try.prog mixed 107 Try.f107 C107 [.tmp 4] Try.func107 C107_ok C107_res C107_nm 13 Try.ntmps107 [a0, a1] [a0, a1, .any, .any, .any, .any, .any, .any, .any, .any, .any, .any, .any] H Q h 11 (by kernel_rfl) (by kernel_rfl)

/-- impl.sum -/
def C108 : CC :=
 (.seq (.ops [⟨some 2, none, .mv (.const (.int .i64 0))⟩])
 (.seq (.ops [⟨some 3, none, .mv (.const (.int .i64 0))⟩])
 (.seq (.seq (.ops [⟨some 6, none, .mv (.tmp 0)⟩,
    ⟨some 7, none, .len false (.tmp 6)⟩,
    ⟨some 8, none, .mv (.const (.int .i64 0))⟩])
  (.block 0 (.loop (.seq (.ops [⟨some 9, none, .bin .lss 0 (.tmp 8) (.tmp 7)⟩])
    (.seq (.cond (.tmp 9) .skip
     (.exit 0))
    (.seq (.block 1 (.seq (.ops [⟨some 10, none, .ia 1 (.tmp 6) (.tmp 8)⟩,
        ⟨some 11, none, .load false 1 (.tmp 10)⟩,
        ⟨some 5, none, .mv (.tmp 11)⟩])
      (.ops [⟨some 12, none, .mv (.tmp 3)⟩,
       ⟨some 13, none, .mv (.tmp 5)⟩,
       ⟨some 14, none, .bin .add 0 (.tmp 12) (.tmp 13)⟩,
       ⟨some 3, none, .mv (.tmp 14)⟩])))
    (.ops [⟨some 15, none, .bin .add 0 (.tmp 8) (.const (.int .i64 1))⟩,
     ⟨some 8, none, .mv (.tmp 15)⟩])))))))
 (.seq (.ops [⟨some 16, none, .mv (.tmp 3)⟩,
   ⟨some 2, none, .mv (.tmp 16)⟩])
 .ret))))
theorem C108_ok : Try.f108.body.bind (comp Try.prog) = some C108 := by kernel_rfl
theorem C108_res : compRs Try.prog Try.f108.results.toList = some [.tmp 2] := by kernel_rfl
theorem C108_nm : (Try.f108.name == "runtime.NumGoroutine") = false := by kernel_rfl
theorem C108_fn {a0 : AV} {H : Heap} {Q : AV → Heap → Prop} (h : vc Try.prog C108 (vcEnd [.tmp 2] Q) H [a0, .any, .any, .any, .any, .any, .any, .any, .any, .any, .any, .any, .any, .any, .any, .any, .any]) : Runs Try.prog 108 [a0] H Q :=
  @fn_go Try.prog mixed 108 Try.f108 C108 [.tmp 2] Try.func108 C108_ok C108_res C108_nm 17 Try.ntmps108 [a0] [a0, .any, .any, .any, .any, .any, .any, .any, .any, .any, .any, .any, .any, .any, .any, .any, .any] H Q h 16 (by kernel_rfl) (by kernel_rfl)

/-- impl.costsOf -/
def C109 : CC :=
 (.seq (.ops [⟨some 2, none, .mv (.const (.slice none 0 0))⟩])
 (.seq (.ops [⟨some 6, none, .lit 1 []⟩,
   ⟨some 3, none, .mv (.tmp 6)⟩])
 (.seq (.seq (.ops [⟨some 7, none, .mv (.tmp 0)⟩,
    ⟨some 8, none, .len false (.tmp 7)⟩,
    ⟨some 9, none, .mv (.const (.int .i64 0))⟩])
  (.block 0 (.loop (.seq (.ops [⟨some 10, none, .bin .lss 0 (.tmp 9) (.tmp 8)⟩])
    (.seq (.cond (.tmp 10) .skip
     (.exit 0))
    (.seq (.block 1 (.seq (.ops [⟨some 11, none, .ia 5 (.tmp 7) (.tmp 9)⟩,
        ⟨some 12, none, .load true 5 (.tmp 11)⟩,
        ⟨some 5, none, .alloc [.string ⟨#[]⟩, .int .i64 0, .int .i64 0, .int .i64 0, .int .i64 0]⟩,
        ⟨none, none, .store 5 (.tmp 5) (.tmp 12)⟩])
      (.ops [⟨some 13, none, .mv (.tmp 3)⟩,
       ⟨some 14, none, .fa 4 (.tmp 5)⟩,
       ⟨some 15, none, .load false 1 (.tmp 14)⟩,
       ⟨some 16, none, .lit 1 [(.tmp 15)]⟩,
       ⟨some 17, none, .app 1 8 (.tmp 13) (.tmp 16)⟩,
       ⟨some 3, none, .mv (.tmp 17)⟩])))
    (.ops [⟨some 18, none, .bin .add 0 (.tmp 9) (.const (.int .i64 1))⟩,
     ⟨some 9, none, .mv (.tmp 18)⟩])))))))
 (.seq (.ops [⟨some 19, none, .mv (.tmp 3)⟩,
   ⟨some 2, none, .mv (.tmp 19)⟩])
 .ret))))
theorem C109_ok : Try.f109.body.bind (comp Try.prog) = some C109 := by kernel_rfl
theorem C109_res : compRs Try.prog Try.f109.results.toList = some [.tmp 2] := by kernel_rfl
theorem C109_nm : (Try.f109.name == "runtime.NumGoroutine") = false := by kernel_rfl
theorem C109_fn {a0 : AV} {H : Heap} {Q : AV → Heap → Prop} (h : vc Try.prog C109 (vcEnd [.tmp 2] Q) H [a0, .any, .any, .any, .any, .any, .any, .any, .any, .any, .any, .any, .any, .any, .any, .any, .any, .any, .any, .any]) : Runs Try.prog 109 [a0] H Q :=
  @fn_go Try.prog mixed 109 Try.f109 C109 [.tmp 2] Try.func109 C109_ok C109_res C109_nm 20 Try.ntmps109 [a0] [a0, .any, .any, .any, .any, .any, .any, .any, .any, .any, .any, .any, .any, .any, .any, .any, .any, .any, .any, .any] H Q h 19 (by kernel_rfl) (by kernel_rfl)

/-- impl.CostsCovered -/
def C52 : CC :=
 (.seq (.ops [⟨some 4, none, .mv (.const (.bool false))⟩,
   ⟨some 5, none, .mv (.const (.int .i64 0))⟩])
 (.seq (.seq (.ops [⟨some 7, none, .mv (.tmp 0)⟩,
    ⟨some 8, none, .mv (.tmp 1)⟩,
    ⟨some 9, none, .call (.func 107) [(.tmp 7), (.tmp 8)]⟩,
    ⟨some 6, none, .mv (.tmp 9)⟩])
  (.seq (.ops [⟨some 10, none, .mv (.tmp 6)⟩,
    ⟨some 11, none, .bin .neq 0 (.tmp 10) (.const (.int .i64 0))⟩])
  (.cond (.tmp 11) (.seq (.ops [⟨some 12, none, .mv (.tmp 6)⟩,
     ⟨some 4, none, .mv (.const (.bool false))⟩,
     ⟨some 5, none, .mv (.tmp 12)⟩])
   .ret)
  .skip)))
 (.seq (.ops [⟨some 13, none, .mv (.tmp 1)⟩,
   ⟨some 14, none, .mv (.tmp 0)⟩,
   ⟨some 15, none, .call (.func 109) [(.tmp 14)]⟩,
   ⟨some 16, none, .call (.func 108) [(.tmp 15)]⟩,
   ⟨some 17, none, .bin .geq 0 (.tmp 13) (.tmp 16)⟩,
   ⟨some 4, none, .mv (.tmp 17)⟩,
   ⟨some 5, none, .mv (.const (.int .i64 0))⟩])
 .ret)))
theorem C52_ok : Try.f52.body.bind (comp Try.prog) = some C52 := by kernel_rfl
theorem C52_res : compRs Try.prog Try.f52.results.toList = some [.tmp 4, .tmp 5] := by kernel_rfl
theorem C52_nm : (Try.f52.name == "runtime.NumGoroutine") = false := by kernel_rfl
theorem C52_fn {a0 a1 : AV} {H : Heap} {Q : AV → Heap → Prop} (h : vc Try.prog C52 (vcEnd [.tmp 4, .tmp 5] Q) H [a0, a1, .any, .any, .any, .any, .any, .any, .any, .any, .any, .any, .any, .any, .any, .any, .any, .any]) : Runs Try.prog 52 [a0, a1] H Q :=
  @fn_go Try.prog mixed 52 Try.f52 C52 [.tmp 4, .tmp 5] Try.func52 C52_ok C52_res C52_nm 18 Try.ntmps52 [a0, a1] [a0, a1, .any, .any, .any, .any, .any, .any, .any, .any, .any, .any, .any, .any, .any, .any, .any, .any] H Q h 16 (by kernel_rfl) (by kernel_rfl)

end Go.Proofs.Ytcbijbckbloadaa
