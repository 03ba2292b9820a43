/- The code of the functions, in the form of our laws; each is the program's own, by the kernel. Written by a program of ours. -/
import Derived.Test.YtcbijbckbloadaaB0
import Derived.KernelRfl
namespace Go.Proofs.Ytcbijbckbloadaa
open Go.Abs

/-- laws.FnExactCostsCovered -/
def C13 : CC :=
 (.seq (.ops [⟨some 4, none, .mv (.const (.bool false))⟩])
 (.seq (.ops [⟨some 5, none, .mv (.const (.int .i64 1048576))⟩])
 (.seq (.ops [⟨some 11, none, .mv (.tmp 0)⟩,
   ⟨some 12, none, .mv (.tmp 5)⟩,
   ⟨some 13, none, .call (.func 32) [(.tmp 11), (.tmp 12)]⟩,
   ⟨some 5, none, .mv (.tmp 13)⟩])
 (.seq (.seq (.ops [⟨some 14, none, .mv (.tmp 5)⟩,
    ⟨some 15, none, .bin .lss 0 (.tmp 14) (.const (.int .i64 0))⟩])
  (.cond (.tmp 15) (.seq (.ops [⟨some 4, none, .mv (.const (.bool true))⟩])
   .ret)
  .skip))
 (.seq (.ops [⟨some 17, none, .mv (.tmp 0)⟩,
   ⟨some 18, none, .call (.func 34) [(.tmp 17)]⟩,
   ⟨some 19, none, .mv (.tmp 1)⟩,
   ⟨some 20, none, .call (.func 51) [(.tmp 18), (.tmp 19)]⟩,
   ⟨some 16, none, .mv (.tmp 20)⟩,
   ⟨some 21, none, .ext (.tmp 16) 0⟩,
   ⟨some 22, none, .ext (.tmp 16) 1⟩,
   ⟨some 6, none, .mv (.tmp 21)⟩,
   ⟨some 7, none, .mv (.tmp 22)⟩])
 (.seq (.ops [⟨some 23, none, .mv (.tmp 0)⟩,
   ⟨some 24, none, .call (.func 34) [(.tmp 23)]⟩,
   ⟨some 8, none, .mv (.tmp 24)⟩])
 (.seq (.ops [⟨some 26, none, .mv (.tmp 8)⟩,
   ⟨some 27, none, .mv (.tmp 1)⟩,
   ⟨some 28, none, .call (.func 52) [(.tmp 26), (.tmp 27)]⟩,
   ⟨some 25, none, .mv (.tmp 28)⟩,
   ⟨some 29, none, .ext (.tmp 25) 0⟩,
   ⟨some 30, none, .ext (.tmp 25) 1⟩,
   ⟨some 9, none, .mv (.tmp 29)⟩,
   ⟨some 10, none, .mv (.tmp 30)⟩])
 (.seq (.seq (.ops [⟨some 31, none, .mv (.tmp 9)⟩,
    ⟨some 32, none, .mv (.tmp 6)⟩,
    ⟨some 33, none, .bin .neq 1 (.tmp 31) (.tmp 32)⟩,
    ⟨some 34, none, .mv (.tmp 33)⟩,
    ⟨some 35, some (34, false), .mv (.tmp 10)⟩,
    ⟨some 36, some (34, false), .mv (.tmp 7)⟩,
    ⟨some 37, some (34, false), .bin .neq 0 (.tmp 35) (.tmp 36)⟩,
    ⟨some 38, none, .pick (.tmp 34) (.const (.bool true)) (.tmp 37)⟩])
  (.cond (.tmp 38) (.seq (.ops [⟨some 4, none, .mv (.const (.bool false))⟩])
   .ret)
  .skip))
 (.seq (.seq (.ops [⟨some 39, none, .mv (.tmp 8)⟩,
    ⟨some 40, none, .mv (.tmp 0)⟩,
    ⟨some 41, none, .call (.func 34) [(.tmp 40)]⟩,
    ⟨some 42, none, .call (.func 36) [(.tmp 39), (.tmp 41)]⟩,
    ⟨some 43, none, .not (.tmp 42)⟩])
  (.cond (.tmp 43) (.seq (.ops [⟨some 4, none, .mv (.const (.bool false))⟩])
   .ret)
  .skip))
 (.seq (.ops [⟨some 4, none, .mv (.const (.bool true))⟩])
 .ret))))))))))
theorem C13_ok : Try.f13.body.bind (comp Try.prog) = some C13 := by kernel_rfl
theorem C13_res : compRs Try.prog Try.f13.results.toList = some [.tmp 4] := by kernel_rfl
theorem C13_nm : (Try.f13.name == "runtime.NumGoroutine") = false := by kernel_rfl
theorem C13_fn {a0 a1 : AV} {H : Heap} {Q : AV → Heap → Prop} (h : vc Try.prog C13 (vcEnd [.tmp 4] Q) H [a0, a1, .any, .any, .any, .any, .any, .any, .any, .any, .any, .any, .any, .any, .any, .any, .any, .any, .any, .any, .any, .any, .any, .any, .any, .any, .any, .any, .any, .any, .any, .any, .any, .any, .any, .any, .any, .any, .any, .any, .any, .any, .any, .any]) : Runs Try.prog 13 [a0, a1] H Q :=
  @fn_go Try.prog mixed 13 Try.f13 C13 [.tmp 4] Try.func13 C13_ok C13_res C13_nm 44 Try.ntmps13 [a0, a1] [a0, a1, .any, .any, .any, .any, .any, .any, .any, .any, .any, .any, .any, .any, .any, .any, .any, .any, .any, .any, .any, .any, .any, .any, .any, .any, .any, .any, .any, .any, .any, .any, .any, .any, .any, .any, .any, .any, .any, .any, .any, .any, .any, .any] H Q h 42 (by kernel_rfl) (by kernel_rfl)

/-- laws.szNotice -/
def C110 : CC :=
 (.seq (.ops [⟨some 2, none, .box (.tmp 0)⟩,
   ⟨some 4, none, .mv (.const (.int .i64 0))⟩])
 (.seq (.ops [⟨some 5, none, .mv (.tmp 1)⟩,
   ⟨some 6, none, .fa 0 (.tmp 2)⟩,
   ⟨some 7, none, .load false 1 (.tmp 6)⟩,
   ⟨some 8, none, .len true (.tmp 7)⟩,
   ⟨some 9, none, .bin .sub 0 (.tmp 5) (.tmp 8)⟩,
   ⟨some 1, none, .mv (.tmp 9)⟩])
 (.seq (.seq (.ops [⟨some 10, none, .mv (.tmp 1)⟩,
    ⟨some 11, none, .bin .lss 0 (.tmp 10) (.const (.int .i64 0))⟩])
  (.cond (.tmp 11) (.seq (.ops [⟨some 4, none, .mv (.const (.int .i64 (-1)))⟩])
   .ret)
  .skip))
 (.seq (.ops [⟨some 12, none, .mv (.tmp 1)⟩,
   ⟨some 4, none, .mv (.tmp 12)⟩])
 .ret))))
theorem C110_ok : Try.f110.body.bind (comp Try.prog) = some C110 := by kernel_rfl
theorem C110_res : compRs Try.prog Try.f110.results.toList = some [.tmp 4] := by kernel_rfl
theorem C110_nm : (Try.f110.name == "runtime.NumGoroutine") = false := by kernel_rfl
theorem C110_fn {a0 a1 : AV} {H : Heap} {Q : AV → Heap → Prop} (h : vc Try.prog C110 (vcEnd [.tmp 4] Q) H [a0, a1, .any, .any, .any, .any, .any, .any, .any, .any, .any, .any, .any]) : Runs Try.prog 110 [a0, a1] H Q :=
  @fn_go Try.prog mixed 110 Try.f110 C110 [.tmp 4] Try.func110 C110_ok C110_res C110_nm 13 Try.ntmps110 [a0, a1] [a0, a1, .any, .any, .any, .any, .any, .any, .any, .any, .any, .any, .any] H Q h 11 (by kernel_rfl) (by kernel_rfl)

/-- laws.szNoticeS -/
def C53 : CC :=
 (.seq (.ops [⟨some 4, none, .mv (.const (.int .i64 0))⟩])
 (.seq (.ops [⟨some 6, none, .mv (.tmp 1)⟩,
   ⟨some 7, none, .mv (.tmp 0)⟩,
   ⟨some 8, none, .len false (.tmp 7)⟩,
   ⟨some 9, none, .bin .sub 0 (.tmp 6) (.tmp 8)⟩,
   ⟨some 1, none, .mv (.tmp 9)⟩])
 (.seq (.seq (.ops [⟨some 10, none, .mv (.tmp 1)⟩,
    ⟨some 11, none, .bin .lss 0 (.tmp 10) (.const (.int .i64 0))⟩])
  (.cond (.tmp 11) (.seq (.ops [⟨some 4, none, .mv (.const (.int .i64 (-1)))⟩])
   .ret)
  .skip))
 (.seq (.seq (.ops [⟨some 5, none, .mv (.const (.int .i64 0))⟩])
  (.block 0 (.loop (.seq (.seq (.ops [⟨some 12, none, .mv (.tmp 5)⟩,
       ⟨some 13, none, .mv (.tmp 0)⟩,
       ⟨some 14, none, .len false (.tmp 13)⟩,
       ⟨some 15, none, .bin .lss 0 (.tmp 12) (.tmp 14)⟩])
     (.cond (.tmp 15) .skip
     (.exit 0)))
    (.seq (.block 1 (.seq (.ops [⟨some 18, none, .mv (.tmp 0)⟩,
        ⟨some 19, none, .mv (.tmp 5)⟩,
        ⟨some 20, none, .ia 4 (.tmp 18) (.tmp 19)⟩,
        ⟨some 21, none, .load true 4 (.tmp 20)⟩,
        ⟨some 22, none, .mv (.tmp 1)⟩,
        ⟨some 23, none, .call (.func 110) [(.tmp 21), (.tmp 22)]⟩,
        ⟨some 1, none, .mv (.tmp 23)⟩])
      (.seq (.ops [⟨some 24, none, .mv (.tmp 1)⟩,
        ⟨some 25, none, .bin .lss 0 (.tmp 24) (.const (.int .i64 0))⟩])
      (.cond (.tmp 25) (.seq (.ops [⟨some 4, none, .mv (.const (.int .i64 (-1)))⟩])
       .ret)
      .skip))))
    (.ops [⟨some 16, none, .mv (.tmp 5)⟩,
     ⟨some 17, none, .bin .add 0 (.tmp 16) (.const (.int .i64 1))⟩,
     ⟨some 5, none, .mv (.tmp 17)⟩]))))))
 (.seq (.ops [⟨some 26, none, .mv (.tmp 1)⟩,
   ⟨some 4, none, .mv (.tmp 26)⟩])
 .ret)))))
theorem C53_ok : Try.f53.body.bind (comp Try.prog) = some C53 := by kernel_rfl
theorem C53_res : compRs Try.prog Try.f53.results.toList = some [.tmp 4] := by kernel_rfl
theorem C53_nm : (Try.f53.name == "runtime.NumGoroutine") = false := by kernel_rfl
theorem C53_fn {a0 a1 : AV} {H : Heap} {Q : AV → Heap → Prop} (h : vc Try.prog C53 (vcEnd [.tmp 4] Q) H [a0, a1, .any, .any, .any, .any, .any, .any, .any, .any, .any, .any, .any, .any, .any, .any, .any, .any, .any, .any, .any, .any, .any, .any, .any, .any, .any]) : Runs Try.prog 53 [a0, a1] H Q :=
  @fn_go Try.prog mixed 53 Try.f53 C53 [.tmp 4] Try.func53 C53_ok C53_res C53_nm 27 Try.ntmps53 [a0, a1] [a0, a1, .any, .any, .any, .any, .any, .any, .any, .any, .any, .any, .any, .any, .any, .any, .any, .any, .any, .any, .any, .any, .any, .any, .any, .any, .any] H Q h 25 (by kernel_rfl) (by kernel_rfl)

/-- spec.l02Is -/
def C111 : CC :=
 (.seq (.ops [⟨some 2, none, .mv (.const (.bool false))⟩])
 (.seq (.ops [⟨some 3, none, .mv (.tmp 0)⟩,
   ⟨some 4, none, .call (.func 64) [(.tmp 3), (.const (.int .i64 0)), (.const (.int .i64 36524))]⟩,
   ⟨some 2, none, .mv (.tmp 4)⟩])
 .ret))
theorem C111_ok : Try.f111.body.bind (comp Try.prog) = some C111 := by kernel_rfl
theorem C111_res : compRs Try.prog Try.f111.results.toList = some [.tmp 2] := by kernel_rfl
theorem C111_nm : (Try.f111.name == "runtime.NumGoroutine") = false := by kernel_rfl
theorem C111_fn {a0 : AV} {H : Heap} {Q : AV → Heap → Prop} (h : vc Try.prog C111 (vcEnd [.tmp 2] Q) H [a0, .any, .any, .any, .any]) : Runs Try.prog 111 [a0] H Q :=
  @fn_go Try.prog mixed 111 Try.f111 C111 [.tmp 2] Try.func111 C111_ok C111_res C111_nm 5 Try.ntmps111 [a0] [a0, .any, .any, .any, .any] H Q h 4 (by kernel_rfl) (by kernel_rfl)

/-- spec.l02Weekday -/
def C141 : CC :=
 (.seq (.ops [⟨some 2, none, .mv (.const (.int .i64 0))⟩])
 (.seq (.ops [⟨some 3, none, .mv (.tmp 0)⟩,
   ⟨some 4, none, .bin .add 0 (.tmp 3) (.const (.int .i64 3))⟩,
   ⟨some 5, none, .bin .rem 0 (.tmp 4) (.const (.int .i64 7))⟩,
   ⟨some 2, none, .mv (.tmp 5)⟩])
 .ret))
theorem C141_ok : Try.f141.body.bind (comp Try.prog) = some C141 := by kernel_rfl
theorem C141_res : compRs Try.prog Try.f141.results.toList = some [.tmp 2] := by kernel_rfl
theorem C141_nm : (Try.f141.name == "runtime.NumGoroutine") = false := by kernel_rfl
theorem C141_fn {a0 : AV} {H : Heap} {Q : AV → Heap → Prop} (h : vc Try.prog C141 (vcEnd [.tmp 2] Q) H [a0, .any, .any, .any, .any, .any]) : Runs Try.prog 141 [a0] H Q :=
  @fn_go Try.prog mixed 141 Try.f141 C141 [.tmp 2] Try.func141 C141_ok C141_res C141_nm 6 Try.ntmps141 [a0] [a0, .any, .any, .any, .any, .any] H Q h 5 (by kernel_rfl) (by kernel_rfl)

/-- spec.l02Business -/
def C131 : CC :=
 (.seq (.ops [⟨some 4, none, .mv (.const (.int .i64 0))⟩])
 (.seq (.block 0 (.loop (.seq (.seq (.ops [⟨some 5, none, .mv (.tmp 0)⟩,
       ⟨some 6, none, .call (.func 141) [(.tmp 5)]⟩,
       ⟨some 7, none, .bin .gtr 0 (.tmp 6) (.const (.int .i64 4))⟩])
     (.cond (.tmp 7) .skip
     (.exit 0)))
    (.block 1 (.ops [⟨some 8, none, .mv (.tmp 0)⟩,
      ⟨some 9, none, .bin .add 0 (.tmp 8) (.const (.int .i64 1))⟩,
      ⟨some 0, none, .mv (.tmp 9)⟩])))))
 (.seq (.block 2 (.loop (.seq (.seq (.ops [⟨some 10, none, .mv (.tmp 1)⟩,
       ⟨some 11, none, .bin .gtr 0 (.tmp 10) (.const (.int .i64 0))⟩])
     (.cond (.tmp 11) .skip
     (.exit 2)))
    (.seq (.block 3 (.seq (.ops [⟨some 14, none, .mv (.tmp 0)⟩,
        ⟨some 15, none, .bin .add 0 (.tmp 14) (.const (.int .i64 1))⟩,
        ⟨some 0, none, .mv (.tmp 15)⟩])
      (.block 4 (.loop (.seq (.seq (.ops [⟨some 16, none, .mv (.tmp 0)⟩,
           ⟨some 17, none, .call (.func 141) [(.tmp 16)]⟩,
           ⟨some 18, none, .bin .gtr 0 (.tmp 17) (.const (.int .i64 4))⟩])
         (.cond (.tmp 18) .skip
         (.exit 4)))
        (.block 5 (.ops [⟨some 19, none, .mv (.tmp 0)⟩,
          ⟨some 20, none, .bin .add 0 (.tmp 19) (.const (.int .i64 1))⟩,
          ⟨some 0, none, .mv (.tmp 20)⟩])))))))
    (.ops [⟨some 12, none, .mv (.tmp 1)⟩,
     ⟨some 13, none, .bin .sub 0 (.tmp 12) (.const (.int .i64 1))⟩,
     ⟨some 1, none, .mv (.tmp 13)⟩])))))
 (.seq (.ops [⟨some 21, none, .mv (.tmp 0)⟩,
   ⟨some 4, none, .mv (.tmp 21)⟩])
 .ret))))
theorem C131_ok : Try.f131.body.bind (comp Try.prog) = some C131 := by kernel_rfl
theorem C131_res : compRs Try.prog Try.f131.results.toList = some [.tmp 4] := by kernel_rfl
theorem C131_nm : (Try.f131.name == "runtime.NumGoroutine") = false := by kernel_rfl
theorem C131_fn {a0 a1 : AV} {H : Heap} {Q : AV → Heap → Prop} (h : vc Try.prog C131 (vcEnd [.tmp 4] Q) H [a0, a1, .any, .any, .any, .any, .any, .any, .any, .any, .any, .any, .any, .any, .any, .any, .any, .any, .any, .any, .any, .any]) : Runs Try.prog 131 [a0, a1] H Q :=
  @fn_go Try.prog mixed 131 Try.f131 C131 [.tmp 4] Try.func131 C131_ok C131_res C131_nm 22 Try.ntmps131 [a0, a1] [a0, a1, .any, .any, .any, .any, .any, .any, .any, .any, .any, .any, .any, .any, .any, .any, .any, .any, .any, .any, .any, .any] H Q h 20 (by kernel_rfl) (by kernel_rfl)

/-- spec.l21Due -/
def C130 : CC :=
 (.seq (.ops [⟨some 1, none, .box (.tmp 0)⟩,
   ⟨some 2, none, .mv (.const (.int .i64 0))⟩])
 (.seq (.ops [⟨some 3, none, .fa 1 (.tmp 1)⟩,
   ⟨some 4, none, .load false 1 (.tmp 3)⟩,
   ⟨some 5, none, .fa 2 (.tmp 1)⟩,
   ⟨some 6, none, .load false 1 (.tmp 5)⟩,
   ⟨some 7, none, .call (.func 131) [(.tmp 4), (.tmp 6)]⟩,
   ⟨some 2, none, .mv (.tmp 7)⟩])
 .ret))
theorem C130_ok : Try.f130.body.bind (comp Try.prog) = some C130 := by kernel_rfl
theorem C130_res : compRs Try.prog Try.f130.results.toList = some [.tmp 2] := by kernel_rfl
theorem C130_nm : (Try.f130.name == "runtime.NumGoroutine") = false := by kernel_rfl
theorem C130_fn {a0 : AV} {H : Heap} {Q : AV → Heap → Prop} (h : vc Try.prog C130 (vcEnd [.tmp 2] Q) H [a0, .any, .any, .any, .any, .any, .any, .any]) : Runs Try.prog 130 [a0] H Q :=
  @fn_go Try.prog mixed 130 Try.f130 C130 [.tmp 2] Try.func130 C130_ok C130_res C130_nm 8 Try.ntmps130 [a0] [a0, .any, .any, .any, .any, .any, .any, .any] H Q h 7 (by kernel_rfl) (by kernel_rfl)

/-- spec.l21Days -/
def C112 : CC :=
 (.seq (.ops [⟨some 1, none, .box (.tmp 0)⟩,
   ⟨some 2, none, .mv (.const (.slice none 0 0))⟩])
 (.seq (.ops [⟨some 4, none, .load true 4 (.tmp 1)⟩,
   ⟨some 5, none, .call (.func 130) [(.tmp 4)]⟩,
   ⟨some 3, none, .mv (.tmp 5)⟩])
 (.seq (.ops [⟨some 6, none, .mv (.tmp 3)⟩,
   ⟨some 7, none, .call (.func 131) [(.tmp 6), (.const (.int .i64 1))]⟩,
   ⟨some 8, none, .mv (.tmp 3)⟩,
   ⟨some 9, none, .call (.func 131) [(.tmp 8), (.const (.int .i64 6))]⟩,
   ⟨some 10, none, .mv (.tmp 3)⟩,
   ⟨some 11, none, .call (.func 131) [(.tmp 10), (.const (.int .i64 16))]⟩,
   ⟨some 12, none, .lit 1 [(.tmp 7), (.tmp 9), (.tmp 11)]⟩,
   ⟨some 2, none, .mv (.tmp 12)⟩])
 .ret)))
theorem C112_ok : Try.f112.body.bind (comp Try.prog) = some C112 := by kernel_rfl
theorem C112_res : compRs Try.prog Try.f112.results.toList = some [.tmp 2] := by kernel_rfl
theorem C112_nm : (Try.f112.name == "runtime.NumGoroutine") = false := by kernel_rfl
theorem C112_fn {a0 : AV} {H : Heap} {Q : AV → Heap → Prop} (h : vc Try.prog C112 (vcEnd [.tmp 2] Q) H [a0, .any, .any, .any, .any, .any, .any, .any, .any, .any, .any, .any, .any]) : Runs Try.prog 112 [a0] H Q :=
  @fn_go Try.prog mixed 112 Try.f112 C112 [.tmp 2] Try.func112 C112_ok C112_res C112_nm 13 Try.ntmps112 [a0] [a0, .any, .any, .any, .any, .any, .any, .any, .any, .any, .any, .any, .any] H Q h 12 (by kernel_rfl) (by kernel_rfl)

/-- spec.IsDiary -/
def C54 : CC :=
 (.seq (.ops [⟨some 2, none, .mv (.const (.bool false))⟩])
 (.seq (.seq (.ops [⟨some 3, none, .mv (.const (.int .i64 0))⟩])
  (.block 0 (.loop (.seq (.seq (.ops [⟨some 5, none, .mv (.tmp 3)⟩,
       ⟨some 6, none, .mv (.tmp 0)⟩,
       ⟨some 7, none, .len false (.tmp 6)⟩,
       ⟨some 8, none, .bin .lss 0 (.tmp 5) (.tmp 7)⟩])
     (.cond (.tmp 8) .skip
     (.exit 0)))
    (.seq (.block 1 (.seq (.ops [⟨some 11, none, .mv (.tmp 0)⟩,
        ⟨some 12, none, .mv (.tmp 3)⟩,
        ⟨some 13, none, .ia 4 (.tmp 11) (.tmp 12)⟩,
        ⟨some 14, none, .load true 4 (.tmp 13)⟩,
        ⟨some 4, none, .alloc [.string ⟨#[]⟩, .int .i64 0, .int .i64 0, .int .i64 0]⟩,
        ⟨none, none, .store 4 (.tmp 4) (.tmp 14)⟩])
      (.seq (.seq (.draw 49 [⟨some 15, none, .fa 0 (.tmp 4)⟩,
         ⟨some 16, none, .load false 1 (.tmp 15)⟩,
         ⟨some 17, none, .call (.func 63) [(.tmp 16)]⟩,
         ⟨some 18, none, .not (.tmp 17)⟩,
         ⟨some 19, none, .mv (.tmp 18)⟩,
         ⟨some 20, some (19, false), .fa 1 (.tmp 4)⟩,
         ⟨some 21, some (19, false), .load false 1 (.tmp 20)⟩,
         ⟨some 22, some (19, false), .call (.func 111) [(.tmp 21)]⟩,
         ⟨some 23, some (19, false), .not (.tmp 22)⟩,
         ⟨some 24, none, .pick (.tmp 19) (.const (.bool true)) (.tmp 23)⟩,
         ⟨some 25, none, .mv (.tmp 24)⟩,
         ⟨some 26, some (25, false), .fa 2 (.tmp 4)⟩,
         ⟨some 27, some (25, false), .load false 1 (.tmp 26)⟩,
         ⟨some 28, some (25, false), .call (.func 64) [(.tmp 27), (.const (.int .i64 1)), (.const (.int .i64 100))]⟩,
         ⟨some 29, some (25, false), .not (.tmp 28)⟩,
         ⟨some 30, none, .pick (.tmp 25) (.const (.bool true)) (.tmp 29)⟩,
         ⟨some 31, none, .mv (.tmp 30)⟩,
         ⟨some 32, some (31, false), .fa 3 (.tmp 4)⟩,
         ⟨some 33, some (31, false), .load false 1 (.tmp 32)⟩,
         ⟨some 34, some (31, false), .bin .neq 0 (.tmp 33) (.const (.int .i64 (-1)))⟩,
         ⟨some 35, some (31, false), .mv (.tmp 34)⟩,
         ⟨some 36, some (35, true), .fa 3 (.tmp 4)⟩,
         ⟨some 37, some (35, true), .load false 1 (.tmp 36)⟩,
         ⟨some 38, some (35, true), .call (.func 111) [(.tmp 37)]⟩,
         ⟨some 39, some (35, true), .not (.tmp 38)⟩,
         ⟨some 40, some (35, true), .mv (.tmp 39)⟩,
         ⟨some 41, some (40, false), .fa 3 (.tmp 4)⟩,
         ⟨some 42, some (40, false), .load false 1 (.tmp 41)⟩,
         ⟨some 43, some (40, false), .fa 1 (.tmp 4)⟩,
         ⟨some 44, some (40, false), .load false 1 (.tmp 43)⟩,
         ⟨some 45, some (40, false), .bin .lss 0 (.tmp 42) (.tmp 44)⟩,
         ⟨some 46, some (35, true), .pick (.tmp 40) (.const (.bool true)) (.tmp 45)⟩,
         ⟨some 47, some (31, false), .pick (.tmp 35) (.tmp 46) (.const (.bool false))⟩,
         ⟨some 48, none, .pick (.tmp 31) (.const (.bool true)) (.tmp 47)⟩,
         ⟨some 49, none, .mv (.tmp 48)⟩,
         ⟨some 50, some (49, false), .mv (.tmp 3)⟩,
         ⟨some 51, some (49, false), .bin .gtr 0 (.tmp 50) (.const (.int .i64 0))⟩,
         ⟨some 52, some (49, false), .mv (.tmp 51)⟩,
         ⟨some 53, some (52, true), .fa 1 (.tmp 4)⟩,
         ⟨some 54, some (52, true), .load false 1 (.tmp 53)⟩,
         ⟨some 55, some (52, true), .mv (.tmp 0)⟩,
         ⟨some 56, some (52, true), .mv (.tmp 3)⟩,
         ⟨some 57, some (52, true), .bin .sub 0 (.tmp 56) (.const (.int .i64 1))⟩,
         ⟨some 58, some (52, true), .ia 4 (.tmp 55) (.tmp 57)⟩,
         ⟨some 59, some (52, true), .fa 1 (.tmp 58)⟩,
         ⟨some 60, some (52, true), .load false 1 (.tmp 59)⟩,
         ⟨some 61, some (52, true), .bin .lss 0 (.tmp 54) (.tmp 60)⟩,
         ⟨some 62, some (49, false), .pick (.tmp 52) (.tmp 61) (.const (.bool false))⟩,
         ⟨some 63, none, .pick (.tmp 49) (.const (.bool true)) (.tmp 62)⟩])
       (.cond (.tmp 63) (.seq (.ops [⟨some 2, none, .mv (.const (.bool false))⟩])
        .ret)
       .skip))
      (.seq (.ops [⟨some 64, none, .load true 4 (.tmp 4)⟩,
        ⟨some 65, none, .call (.func 112) [(.tmp 64)]⟩,
        ⟨some 66, none, .ia 1 (.tmp 65) (.const (.int .i64 2))⟩,
        ⟨some 67, none, .load false 1 (.tmp 66)⟩,
        ⟨some 68, none, .call (.func 111) [(.tmp 67)]⟩,
        ⟨some 69, none, .not (.tmp 68)⟩])
      (.cond (.tmp 69) (.seq (.ops [⟨some 2, none, .mv (.const (.bool false))⟩])
       .ret)
      .skip)))))
    (.ops [⟨some 9, none, .mv (.tmp 3)⟩,
     ⟨some 10, none, .bin .add 0 (.tmp 9) (.const (.int .i64 1))⟩,
     ⟨some 3, none, .mv (.tmp 10)⟩]))))))
 (.seq (.ops [⟨some 70, none, .mv (.tmp 0)⟩,
   ⟨some 71, none, .len false (.tmp 70)⟩,
   ⟨some 72, none, .bin .leq 0 (.tmp 71) (.const (.int .i64 12))⟩,
   ⟨some 2, none, .mv (.tmp 72)⟩])
 .ret)))
theorem C54_ok : Try.f54.body.bind (comp Try.prog) = some C54 := by kernel_rfl
theorem C54_res : compRs Try.prog Try.f54.results.toList = some [.tmp 2] := by kernel_rfl
theorem C54_nm : (Try.f54.name == "runtime.NumGoroutine") = false := by kernel_rfl
theorem C54_fn {a0 : AV} {H : Heap} {Q : AV → Heap → Prop} (h : vc Try.prog C54 (vcEnd [.tmp 2] Q) H [a0, .any, .any, .any, .any, .any, .any, .any, .any, .any, .any, .any, .any, .any, .any, .any, .any, .any, .any, .any, .any, .any, .any, .any, .any, .any, .any, .any, .any, .any, .any, .any, .any, .any, .any, .any, .any, .any, .any, .any, .any, .any, .any, .any, .any, .any, .any, .any, .any, .any, .any, .any, .any, .any, .any, .any, .any, .any, .any, .any, .any, .any, .any, .any, .any, .any, .any, .any, .any, .any, .any, .any, .any]) : Runs Try.prog 54 [a0] H Q :=
  @fn_go Try.prog mixed 54 Try.f54 C54 [.tmp 2] Try.func54 C54_ok C54_res C54_nm 73 Try.ntmps54 [a0] [a0, .any, .any, .any, .any, .any, .any, .any, .any, .any, .any, .any, .any, .any, .any, .any, .any, .any, .any, .any, .any, .any, .any, .any, .any, .any, .any, .any, .any, .any, .any, .any, .any, .any, .any, .any, .any, .any, .any, .any, .any, .any, .any, .any, .any, .any, .any, .any, .any, .any, .any, .any, .any, .any, .any, .any, .any, .any, .any, .any, .any, .any, .any, .any, .any, .any, .any, .any, .any, .any, .any, .any, .any] H Q h 72 (by kernel_rfl) (by kernel_rfl)

/-- laws.toNotice -/
def C113 : CC :=
 (.seq (.ops [⟨some 1, none, .box (.tmp 0)⟩,
   ⟨some 2, none, .alloc [.string ⟨#[]⟩, .int .i64 0, .int .i64 0, .int .i64 0]⟩])
 (.seq (.ops [⟨some 3, none, .alloc [.string ⟨#[]⟩, .int .i64 0, .int .i64 0, .int .i64 0]⟩])
 (.seq (.ops [⟨some 4, none, .fa 0 (.tmp 1)⟩,
   ⟨some 5, none, .load false 1 (.tmp 4)⟩,
   ⟨some 6, none, .fa 0 (.tmp 3)⟩,
   ⟨none, none, .store 1 (.tmp 6) (.tmp 5)⟩])
 (.seq (.ops [⟨some 7, none, .fa 1 (.tmp 1)⟩,
   ⟨some 8, none, .load false 1 (.tmp 7)⟩,
   ⟨some 9, none, .fa 1 (.tmp 3)⟩,
   ⟨none, none, .store 1 (.tmp 9) (.tmp 8)⟩])
 (.seq (.ops [⟨some 10, none, .fa 2 (.tmp 1)⟩,
   ⟨some 11, none, .load false 1 (.tmp 10)⟩,
   ⟨some 12, none, .fa 2 (.tmp 3)⟩,
   ⟨none, none, .store 1 (.tmp 12) (.tmp 11)⟩])
 (.seq (.ops [⟨some 13, none, .fa 3 (.tmp 1)⟩,
   ⟨some 14, none, .load false 1 (.tmp 13)⟩,
   ⟨some 15, none, .fa 3 (.tmp 3)⟩,
   ⟨none, none, .store 1 (.tmp 15) (.tmp 14)⟩])
 (.seq (.ops [⟨some 16, none, .load true 4 (.tmp 3)⟩,
   ⟨none, none, .store 4 (.tmp 2) (.tmp 16)⟩])
 .ret)))))))
theorem C113_ok : Try.f113.body.bind (comp Try.prog) = some C113 := by kernel_rfl
theorem C113_res : compRs Try.prog Try.f113.results.toList = some [.cell true 4 2] := by kernel_rfl
theorem C113_nm : (Try.f113.name == "runtime.NumGoroutine") = false := by kernel_rfl
theorem C113_fn {a0 : AV} {H : Heap} {Q : AV → Heap → Prop} (h : vc Try.prog C113 (vcEnd [.cell true 4 2] Q) H [a0, .any, .any, .any, .any, .any, .any, .any, .any, .any, .any, .any, .any, .any, .any, .any, .any]) : Runs Try.prog 113 [a0] H Q :=
  @fn_go Try.prog mixed 113 Try.f113 C113 [.cell true 4 2] Try.func113 C113_ok C113_res C113_nm 17 Try.ntmps113 [a0] [a0, .any, .any, .any, .any, .any, .any, .any, .any, .any, .any, .any, .any, .any, .any, .any, .any] H Q h 16 (by kernel_rfl) (by kernel_rfl)

/-- laws.toNoticeS -/
def C55 : CC :=
 (.seq (.ops [⟨some 2, none, .mv (.const (.slice none 0 0))⟩])
 (.seq (.ops [⟨some 5, none, .mv (.tmp 0)⟩,
   ⟨some 6, none, .len false (.tmp 5)⟩,
   ⟨some 7, none, .mks [.string ⟨#[]⟩, .int .i64 0, .int .i64 0, .int .i64 0] 40 (.tmp 6)⟩,
   ⟨some 3, none, .mv (.tmp 7)⟩])
 (.seq (.seq (.ops [⟨some 4, none, .mv (.const (.int .i64 0))⟩])
  (.block 0 (.loop (.seq (.seq (.ops [⟨some 8, none, .mv (.tmp 4)⟩,
       ⟨some 9, none, .mv (.tmp 0)⟩,
       ⟨some 10, none, .len false (.tmp 9)⟩,
       ⟨some 11, none, .bin .lss 0 (.tmp 8) (.tmp 10)⟩])
     (.cond (.tmp 11) .skip
     (.exit 0)))
    (.seq (.block 1 (.ops [⟨some 14, none, .mv (.tmp 3)⟩,
       ⟨some 15, none, .mv (.tmp 4)⟩,
       ⟨some 16, none, .mv (.tmp 0)⟩,
       ⟨some 17, none, .mv (.tmp 4)⟩,
       ⟨some 18, none, .ia 4 (.tmp 16) (.tmp 17)⟩,
       ⟨some 19, none, .load true 4 (.tmp 18)⟩,
       ⟨some 20, none, .call (.func 113) [(.tmp 19)]⟩,
       ⟨some 21, none, .ia 4 (.tmp 14) (.tmp 15)⟩,
       ⟨none, none, .store 4 (.tmp 21) (.tmp 20)⟩]))
    (.ops [⟨some 12, none, .mv (.tmp 4)⟩,
     ⟨some 13, none, .bin .add 0 (.tmp 12) (.const (.int .i64 1))⟩,
     ⟨some 4, none, .mv (.tmp 13)⟩]))))))
 (.seq (.ops [⟨some 22, none, .mv (.tmp 3)⟩,
   ⟨some 2, none, .mv (.tmp 22)⟩])
 .ret))))
theorem C55_ok : Try.f55.body.bind (comp Try.prog) = some C55 := by kernel_rfl
theorem C55_res : compRs Try.prog Try.f55.results.toList = some [.tmp 2] := by kernel_rfl
theorem C55_nm : (Try.f55.name == "runtime.NumGoroutine") = false := by kernel_rfl
theorem C55_fn {a0 : AV} {H : Heap} {Q : AV → Heap → Prop} (h : vc Try.prog C55 (vcEnd [.tmp 2] Q) H [a0, .any, .any, .any, .any, .any, .any, .any, .any, .any, .any, .any, .any, .any, .any, .any, .any, .any, .any, .any, .any, .any, .any]) : Runs Try.prog 55 [a0] H Q :=
  @fn_go Try.prog mixed 55 Try.f55 C55 [.tmp 2] Try.func55 C55_ok C55_res C55_nm 23 Try.ntmps55 [a0] [a0, .any, .any, .any, .any, .any, .any, .any, .any, .any, .any, .any, .any, .any, .any, .any, .any, .any, .any, .any, .any, .any, .any] H Q h 22 (by kernel_rfl) (by kernel_rfl)

/-- slices.IndexFunc[[]impl.Notice,impl.Notice] -/
def C142 : CC :=
 (.seq (.ops [⟨some 4, none, .mv (.const (.int .i64 0))⟩])
 (.seq (.seq (.ops [⟨some 6, none, .mv (.tmp 0)⟩,
    ⟨some 7, none, .len false (.tmp 6)⟩,
    ⟨some 8, none, .mv (.const (.int .i64 0))⟩])
  (.block 0 (.loop (.seq (.ops [⟨some 9, none, .bin .lss 0 (.tmp 8) (.tmp 7)⟩])
    (.seq (.cond (.tmp 9) .skip
     (.exit 0))
    (.seq (.block 1 (.seq (.ops [⟨some 10, none, .mv (.tmp 8)⟩,
        ⟨some 5, none, .mv (.tmp 10)⟩])
      (.seq (.ops [⟨some 11, none, .mv (.tmp 1)⟩,
        ⟨some 12, none, .mv (.tmp 0)⟩,
        ⟨some 13, none, .mv (.tmp 5)⟩,
        ⟨some 14, none, .ia 4 (.tmp 12) (.tmp 13)⟩,
        ⟨some 15, none, .load true 4 (.tmp 14)⟩,
        ⟨some 16, none, .call (.tmp 11) [(.tmp 15)]⟩])
      (.cond (.tmp 16) (.seq (.ops [⟨some 17, none, .mv (.tmp 5)⟩,
         ⟨some 4, none, .mv (.tmp 17)⟩])
       .ret)
      .skip))))
    (.ops [⟨some 18, none, .bin .add 0 (.tmp 8) (.const (.int .i64 1))⟩,
     ⟨some 8, none, .mv (.tmp 18)⟩])))))))
 (.seq (.ops [⟨some 4, none, .mv (.const (.int .i64 (-1)))⟩])
 .ret)))
theorem C142_ok : Try.f142.body.bind (comp Try.prog) = some C142 := by kernel_rfl
theorem C142_res : compRs Try.prog Try.f142.results.toList = some [.tmp 4] := by kernel_rfl
theorem C142_nm : (Try.f142.name == "runtime.NumGoroutine") = false := by kernel_rfl
theorem C142_fn {a0 a1 : AV} {H : Heap} {Q : AV → Heap → Prop} (h : vc Try.prog C142 (vcEnd [.tmp 4] Q) H [a0, a1, .any, .any, .any, .any, .any, .any, .any, .any, .any, .any, .any, .any, .any, .any, .any, .any, .any]) : Runs Try.prog 142 [a0, a1] H Q :=
  @fn_go Try.prog mixed 142 Try.f142 C142 [.tmp 4] Try.func142 C142_ok C142_res C142_nm 19 Try.ntmps142 [a0, a1] [a0, a1, .any, .any, .any, .any, .any, .any, .any, .any, .any, .any, .any, .any, .any, .any, .any, .any, .any] H Q h 17 (by kernel_rfl) (by kernel_rfl)

/-- slices.ContainsFunc[[]impl.Notice,impl.Notice] -/
def C132 : CC :=
 (.seq (.ops [⟨some 4, none, .mv (.const (.bool false))⟩])
 (.seq (.ops [⟨some 5, none, .mv (.tmp 0)⟩,
   ⟨some 6, none, .mv (.tmp 1)⟩,
   ⟨some 7, none, .call (.func 142) [(.tmp 5), (.tmp 6)]⟩,
   ⟨some 8, none, .bin .geq 0 (.tmp 7) (.const (.int .i64 0))⟩,
   ⟨some 4, none, .mv (.tmp 8)⟩])
 .ret))
theorem C132_ok : Try.f132.body.bind (comp Try.prog) = some C132 := by kernel_rfl
theorem C132_res : compRs Try.prog Try.f132.results.toList = some [.tmp 4] := by kernel_rfl
theorem C132_nm : (Try.f132.name == "runtime.NumGoroutine") = false := by kernel_rfl
theorem C132_fn {a0 a1 : AV} {H : Heap} {Q : AV → Heap → Prop} (h : vc Try.prog C132 (vcEnd [.tmp 4] Q) H [a0, a1, .any, .any, .any, .any, .any, .any, .any]) : Runs Try.prog 132 [a0, a1] H Q :=
  @fn_go Try.prog mixed 132 Try.f132 C132 [.tmp 4] Try.func132 C132_ok C132_res C132_nm 9 Try.ntmps132 [a0, a1] [a0, a1, .any, .any, .any, .any, .any, .any, .any] H Q h 7 (by kernel_rfl) (by kernel_rfl)

/-- impl.all[impl.Notice]$1 -/
def C133 : CC :=
 (.seq (.ops [⟨some 2, none, .box (.tmp 0)⟩,
   ⟨some 3, none, .mv (.const (.bool false))⟩])
 (.seq (.ops [⟨some 4, none, .load false 1 (.tmp 1)⟩,
   ⟨some 5, none, .load true 4 (.tmp 2)⟩,
   ⟨some 6, none, .call (.tmp 4) [(.tmp 5)]⟩,
   ⟨some 7, none, .not (.tmp 6)⟩,
   ⟨some 3, none, .mv (.tmp 7)⟩])
 .ret))
theorem C133_ok : Try.f133.body.bind (comp Try.prog) = some C133 := by kernel_rfl
theorem C133_res : compRs Try.prog Try.f133.results.toList = some [.tmp 3] := by kernel_rfl
theorem C133_nm : (Try.f133.name == "runtime.NumGoroutine") = false := by kernel_rfl
theorem C133_fn {a0 a1 : AV} {H : Heap} {Q : AV → Heap → Prop} (h : vc Try.prog C133 (vcEnd [.tmp 3] Q) H [a0, a1, .any, .any, .any, .any, .any, .any]) : Runs Try.prog 133 [a0, a1] H Q :=
  @fn_go Try.prog mixed 133 Try.f133 C133 [.tmp 3] Try.func133 C133_ok C133_res C133_nm 8 Try.ntmps133 [a0, a1] [a0, a1, .any, .any, .any, .any, .any, .any] H Q h 6 (by kernel_rfl) (by kernel_rfl)

/-- impl.all[impl.Notice] -/
def C114 : CC :=
 (.seq (.ops [⟨some 3, none, .box (.tmp 1)⟩,
   ⟨some 4, none, .mv (.const (.bool false))⟩])
 (.seq (.ops [⟨some 5, none, .mv (.tmp 0)⟩,
   ⟨some 6, none, .mkf 133 [(.tmp 3)]⟩,
   ⟨some 7, none, .call (.func 132) [(.tmp 5), (.tmp 6)]⟩,
   ⟨some 8, none, .not (.tmp 7)⟩,
   ⟨some 4, none, .mv (.tmp 8)⟩])
 .ret))
theorem C114_ok : Try.f114.body.bind (comp Try.prog) = some C114 := by kernel_rfl
theorem C114_res : compRs Try.prog Try.f114.results.toList = some [.tmp 4] := by kernel_rfl
theorem C114_nm : (Try.f114.name == "runtime.NumGoroutine") = false := by kernel_rfl
theorem C114_fn {a0 a1 : AV} {H : Heap} {Q : AV → Heap → Prop} (h : vc Try.prog C114 (vcEnd [.tmp 4] Q) H [a0, a1, .any, .any, .any, .any, .any, .any, .any]) : Runs Try.prog 114 [a0, a1] H Q :=
  @fn_go Try.prog mixed 114 Try.f114 C114 [.tmp 4] Try.func114 C114_ok C114_res C114_nm 9 Try.ntmps114 [a0, a1] [a0, a1, .any, .any, .any, .any, .any, .any, .any] H Q h 7 (by kernel_rfl) (by kernel_rfl)

/-- impl.daysIn -/
def C146 : CC :=
 (.seq (.ops [⟨some 4, none, .mv (.const (.int .i64 0))⟩])
 (.seq (.block 0 (.seq (.ops [⟨some 6, none, .mv (.tmp 1)⟩,
     ⟨some 7, none, .bin .eql 0 (.tmp 6) (.const (.int .i64 2))⟩,
     ⟨some 8, none, .mv (.tmp 7)⟩,
     ⟨some 9, some (8, true), .mv (.tmp 0)⟩,
     ⟨some 10, some (8, true), .bin .rem 0 (.tmp 9) (.const (.int .i64 4))⟩,
     ⟨some 11, some (8, true), .bin .eql 0 (.tmp 10) (.const (.int .i64 0))⟩,
     ⟨some 12, none, .pick (.tmp 8) (.tmp 11) (.const (.bool false))⟩,
     ⟨some 5, none, .mv (.tmp 12)⟩])
   (.cond (.tmp 5) (.seq (.ops [⟨some 4, none, .mv (.const (.int .i64 29))⟩])
    .ret)
   (.seq (.ops [⟨some 14, none, .mv (.tmp 1)⟩,
      ⟨some 15, none, .bin .eql 0 (.tmp 14) (.const (.int .i64 2))⟩,
      ⟨some 13, none, .mv (.tmp 15)⟩])
    (.cond (.tmp 13) (.seq (.ops [⟨some 4, none, .mv (.const (.int .i64 28))⟩])
     .ret)
    (.seq (.ops [⟨some 17, none, .mv (.tmp 1)⟩,
       ⟨some 18, none, .bin .eql 0 (.tmp 17) (.const (.int .i64 4))⟩,
       ⟨some 19, none, .mv (.tmp 18)⟩,
       ⟨some 20, some (19, false), .mv (.tmp 1)⟩,
       ⟨some 21, some (19, false), .bin .eql 0 (.tmp 20) (.const (.int .i64 6))⟩,
       ⟨some 22, none, .pick (.tmp 19) (.const (.bool true)) (.tmp 21)⟩,
       ⟨some 23, none, .mv (.tmp 22)⟩,
       ⟨some 24, some (23, false), .mv (.tmp 1)⟩,
       ⟨some 25, some (23, false), .bin .eql 0 (.tmp 24) (.const (.int .i64 9))⟩,
       ⟨some 26, none, .pick (.tmp 23) (.const (.bool true)) (.tmp 25)⟩,
       ⟨some 27, none, .mv (.tmp 26)⟩,
       ⟨some 28, some (27, false), .mv (.tmp 1)⟩,
       ⟨some 29, some (27, false), .bin .eql 0 (.tmp 28) (.const (.int .i64 11))⟩,
       ⟨some 30, none, .pick (.tmp 27) (.const (.bool true)) (.tmp 29)⟩,
       ⟨some 16, none, .mv (.tmp 30)⟩])
     (.cond (.tmp 16) (.seq (.ops [⟨some 4, none, .mv (.const (.int .i64 30))⟩])
      .ret)
     .skip)))))))
 (.seq (.ops [⟨some 4, none, .mv (.const (.int .i64 31))⟩])
 .ret)))
theorem C146_ok : Try.f146.body.bind (comp Try.prog) = some C146 := by kernel_rfl
theorem C146_res : compRs Try.prog Try.f146.results.toList = some [.tmp 4] := by kernel_rfl
theorem C146_nm : (Try.f146.name == "runtime.NumGoroutine") = false := by kernel_rfl
theorem C146_fn {a0 a1 : AV} {H : Heap} {Q : AV → Heap → Prop} (h : vc Try.prog C146 (vcEnd [.tmp 4] Q) H [a0, a1, .any, .any, .any, .any, .any, .any, .any, .any, .any, .any, .any, .any, .any, .any, .any, .any, .any, .any, .any, .any, .any, .any, .any, .any, .any, .any, .any, .any, .any]) : Runs Try.prog 146 [a0, a1] H Q :=
  @fn_go Try.prog mixed 146 Try.f146 C146 [.tmp 4] Try.func146 C146_ok C146_res C146_nm 31 Try.ntmps146 [a0, a1] [a0, a1, .any, .any, .any, .any, .any, .any, .any, .any, .any, .any, .any, .any, .any, .any, .any, .any, .any, .any, .any, .any, .any, .any, .any, .any, .any, .any, .any, .any, .any] H Q h 29 (by kernel_rfl) (by kernel_rfl)

/-- impl.dayOf -/
def C143 : CC :=
 (.seq (.ops [⟨some 1, none, .box (.tmp 0)⟩,
   ⟨some 2, none, .mv (.const (.int .i64 0))⟩])
 (.seq (.ops [⟨some 6, none, .fa 0 (.tmp 1)⟩,
   ⟨some 7, none, .load false 1 (.tmp 6)⟩,
   ⟨some 8, none, .bin .sub 0 (.tmp 7) (.const (.int .i64 1970))⟩,
   ⟨some 3, none, .mv (.tmp 8)⟩])
 (.seq (.ops [⟨some 9, none, .mv (.tmp 3)⟩,
   ⟨some 10, none, .bin .mul 0 (.const (.int .i64 365)) (.tmp 9)⟩,
   ⟨some 11, none, .mv (.tmp 3)⟩,
   ⟨some 12, none, .bin .add 0 (.tmp 11) (.const (.int .i64 1))⟩,
   ⟨some 13, none, .bin .quo 0 (.tmp 12) (.const (.int .i64 4))⟩,
   ⟨some 14, none, .bin .add 0 (.tmp 10) (.tmp 13)⟩,
   ⟨some 15, none, .fa 2 (.tmp 1)⟩,
   ⟨some 16, none, .load false 1 (.tmp 15)⟩,
   ⟨some 17, none, .bin .add 0 (.tmp 14) (.tmp 16)⟩,
   ⟨some 18, none, .bin .sub 0 (.tmp 17) (.const (.int .i64 1))⟩,
   ⟨some 4, none, .mv (.tmp 18)⟩])
 (.seq (.seq (.ops [⟨some 5, none, .mv (.const (.int .i64 1))⟩])
  (.block 0 (.loop (.seq (.seq (.ops [⟨some 19, none, .mv (.tmp 5)⟩,
       ⟨some 20, none, .fa 1 (.tmp 1)⟩,
       ⟨some 21, none, .load false 1 (.tmp 20)⟩,
       ⟨some 22, none, .bin .lss 0 (.tmp 19) (.tmp 21)⟩])
     (.cond (.tmp 22) .skip
     (.exit 0)))
    (.seq (.block 1 (.ops [⟨some 25, none, .mv (.tmp 4)⟩,
       ⟨some 26, none, .fa 0 (.tmp 1)⟩,
       ⟨some 27, none, .load false 1 (.tmp 26)⟩,
       ⟨some 28, none, .mv (.tmp 5)⟩,
       ⟨some 29, none, .call (.func 146) [(.tmp 27), (.tmp 28)]⟩,
       ⟨some 30, none, .bin .add 0 (.tmp 25) (.tmp 29)⟩,
       ⟨some 4, none, .mv (.tmp 30)⟩]))
    (.ops [⟨some 23, none, .mv (.tmp 5)⟩,
     ⟨some 24, none, .bin .add 0 (.tmp 23) (.const (.int .i64 1))⟩,
     ⟨some 5, none, .mv (.tmp 24)⟩]))))))
 (.seq (.ops [⟨some 31, none, .mv (.tmp 4)⟩,
   ⟨some 2, none, .mv (.tmp 31)⟩])
 .ret)))))
theorem C143_ok : Try.f143.body.bind (comp Try.prog) = some C143 := by kernel_rfl
theorem C143_res : compRs Try.prog Try.f143.results.toList = some [.tmp 2] := by kernel_rfl
theorem C143_nm : (Try.f143.name == "runtime.NumGoroutine") = false := by kernel_rfl
theorem C143_fn {a0 : AV} {H : Heap} {Q : AV → Heap → Prop} (h : vc Try.prog C143 (vcEnd [.tmp 2] Q) H [a0, .any, .any, .any, .any, .any, .any, .any, .any, .any, .any, .any, .any, .any, .any, .any, .any, .any, .any, .any, .any, .any, .any, .any, .any, .any, .any, .any, .any, .any, .any, .any]) : Runs Try.prog 143 [a0] H Q :=
  @fn_go Try.prog mixed 143 Try.f143 C143 [.tmp 2] Try.func143 C143_ok C143_res C143_nm 32 Try.ntmps143 [a0] [a0, .any, .any, .any, .any, .any, .any, .any, .any, .any, .any, .any, .any, .any, .any, .any, .any, .any, .any, .any, .any, .any, .any, .any, .any, .any, .any, .any, .any, .any, .any, .any] H Q h 31 (by kernel_rfl) (by kernel_rfl)

/-- impl.isDay -/
def C134 : CC :=
 (.seq (.ops [⟨some 2, none, .mv (.const (.bool false))⟩])
 (.seq (.ops [⟨some 3, none, .mv (.tmp 0)⟩,
   ⟨some 4, none, .build [.int .i64 0, .int .i64 0, .int .i64 0] [(0, 1, (.const (.int .i64 2069))), (1, 1, (.const (.int .i64 12))), (2, 1, (.const (.int .i64 31)))]⟩,
   ⟨some 5, none, .call (.func 143) [(.tmp 4)]⟩,
   ⟨some 6, none, .call (.func 69) [(.tmp 3), (.const (.int .i64 0)), (.tmp 5)]⟩,
   ⟨some 2, none, .mv (.tmp 6)⟩])
 .ret))
theorem C134_ok : Try.f134.body.bind (comp Try.prog) = some C134 := by kernel_rfl
theorem C134_res : compRs Try.prog Try.f134.results.toList = some [.tmp 2] := by kernel_rfl
theorem C134_nm : (Try.f134.name == "runtime.NumGoroutine") = false := by kernel_rfl
theorem C134_fn {a0 : AV} {H : Heap} {Q : AV → Heap → Prop} (h : vc Try.prog C134 (vcEnd [.tmp 2] Q) H [a0, .any, .any, .any, .any, .any, .any]) : Runs Try.prog 134 [a0] H Q :=
  @fn_go Try.prog mixed 134 Try.f134 C134 [.tmp 2] Try.func134 C134_ok C134_res C134_nm 7 Try.ntmps134 [a0] [a0, .any, .any, .any, .any, .any, .any] H Q h 6 (by kernel_rfl) (by kernel_rfl)

/-- (impl.Notice).isOpen -/
def C135 : CC :=
 (.seq (.ops [⟨some 1, none, .box (.tmp 0)⟩,
   ⟨some 2, none, .mv (.const (.bool false))⟩])
 (.seq (.ops [⟨some 3, none, .fa 3 (.tmp 1)⟩,
   ⟨some 4, none, .load false 1 (.tmp 3)⟩,
   ⟨some 5, none, .bin .eql 0 (.tmp 4) (.const (.int .i64 (-1)))⟩,
   ⟨some 2, none, .mv (.tmp 5)⟩])
 .ret))
theorem C135_ok : Try.f135.body.bind (comp Try.prog) = some C135 := by kernel_rfl
theorem C135_res : compRs Try.prog Try.f135.results.toList = some [.tmp 2] := by kernel_rfl
theorem C135_nm : (Try.f135.name == "runtime.NumGoroutine") = false := by kernel_rfl
theorem C135_fn {a0 : AV} {H : Heap} {Q : AV → Heap → Prop} (h : vc Try.prog C135 (vcEnd [.tmp 2] Q) H [a0, .any, .any, .any, .any, .any]) : Runs Try.prog 135 [a0] H Q :=
  @fn_go Try.prog mixed 135 Try.f135 C135 [.tmp 2] Try.func135 C135_ok C135_res C135_nm 6 Try.ntmps135 [a0] [a0, .any, .any, .any, .any, .any] H Q h 5 (by kernel_rfl) (by kernel_rfl)

/-- impl.weekday -/
def C148 : CC :=
 (.seq (.ops [⟨some 2, none, .mv (.const (.int .i64 0))⟩])
 (.seq (.ops [⟨some 3, none, .mv (.tmp 0)⟩,
   ⟨some 4, none, .bin .add 0 (.tmp 3) (.const (.int .i64 3))⟩,
   ⟨some 5, none, .bin .rem 0 (.tmp 4) (.const (.int .i64 7))⟩,
   ⟨some 2, none, .mv (.tmp 5)⟩])
 .ret))
theorem C148_ok : Try.f148.body.bind (comp Try.prog) = some C148 := by kernel_rfl
theorem C148_res : compRs Try.prog Try.f148.results.toList = some [.tmp 2] := by kernel_rfl
theorem C148_nm : (Try.f148.name == "runtime.NumGoroutine") = false := by kernel_rfl
theorem C148_fn {a0 : AV} {H : Heap} {Q : AV → Heap → Prop} (h : vc Try.prog C148 (vcEnd [.tmp 2] Q) H [a0, .any, .any, .any, .any, .any]) : Runs Try.prog 148 [a0] H Q :=
  @fn_go Try.prog mixed 148 Try.f148 C148 [.tmp 2] Try.func148 C148_ok C148_res C148_nm 6 Try.ntmps148 [a0] [a0, .any, .any, .any, .any, .any] H Q h 5 (by kernel_rfl) (by kernel_rfl)

/-- impl.onBusiness -/
def C147 : CC :=
 (.seq (.ops [⟨some 2, none, .mv (.const (.int .i64 0))⟩])
 (.seq (.block 0 (.loop (.seq (.seq (.ops [⟨some 3, none, .mv (.tmp 0)⟩,
       ⟨some 4, none, .call (.func 148) [(.tmp 3)]⟩,
       ⟨some 5, none, .bin .gtr 0 (.tmp 4) (.const (.int .i64 4))⟩])
     (.cond (.tmp 5) .skip
     (.exit 0)))
    (.block 1 (.ops [⟨some 6, none, .mv (.tmp 0)⟩,
      ⟨some 7, none, .bin .add 0 (.tmp 6) (.const (.int .i64 1))⟩,
      ⟨some 0, none, .mv (.tmp 7)⟩])))))
 (.seq (.ops [⟨some 8, none, .mv (.tmp 0)⟩,
   ⟨some 2, none, .mv (.tmp 8)⟩])
 .ret)))
theorem C147_ok : Try.f147.body.bind (comp Try.prog) = some C147 := by kernel_rfl
theorem C147_res : compRs Try.prog Try.f147.results.toList = some [.tmp 2] := by kernel_rfl
theorem C147_nm : (Try.f147.name == "runtime.NumGoroutine") = false := by kernel_rfl
theorem C147_fn {a0 : AV} {H : Heap} {Q : AV → Heap → Prop} (h : vc Try.prog C147 (vcEnd [.tmp 2] Q) H [a0, .any, .any, .any, .any, .any, .any, .any, .any]) : Runs Try.prog 147 [a0] H Q :=
  @fn_go Try.prog mixed 147 Try.f147 C147 [.tmp 2] Try.func147 C147_ok C147_res C147_nm 9 Try.ntmps147 [a0] [a0, .any, .any, .any, .any, .any, .any, .any, .any] H Q h 8 (by kernel_rfl) (by kernel_rfl)

/-- impl.businessDay -/
def C145 : CC :=
 (.seq (.ops [⟨some 4, none, .mv (.const (.int .i64 0))⟩])
 (.seq (.ops [⟨some 5, none, .mv (.tmp 0)⟩,
   ⟨some 6, none, .call (.func 147) [(.tmp 5)]⟩,
   ⟨some 0, none, .mv (.tmp 6)⟩])
 (.seq (.seq (.ops [⟨some 7, none, .mv (.tmp 1)⟩,
    ⟨some 8, none, .mv (.const (.int .i64 0))⟩])
  (.block 0 (.loop (.seq (.ops [⟨some 9, none, .bin .lss 0 (.tmp 8) (.tmp 7)⟩])
    (.seq (.cond (.tmp 9) .skip
     (.exit 0))
    (.seq (.block 1 (.ops [⟨some 10, none, .mv (.tmp 0)⟩,
       ⟨some 11, none, .bin .add 0 (.tmp 10) (.const (.int .i64 1))⟩,
       ⟨some 12, none, .call (.func 147) [(.tmp 11)]⟩,
       ⟨some 0, none, .mv (.tmp 12)⟩]))
    (.ops [⟨some 13, none, .bin .add 0 (.tmp 8) (.const (.int .i64 1))⟩,
     ⟨some 8, none, .mv (.tmp 13)⟩])))))))
 (.seq (.ops [⟨some 14, none, .mv (.tmp 0)⟩,
   ⟨some 4, none, .mv (.tmp 14)⟩])
 .ret))))
theorem C145_ok : Try.f145.body.bind (comp Try.prog) = some C145 := by kernel_rfl
theorem C145_res : compRs Try.prog Try.f145.results.toList = some [.tmp 4] := by kernel_rfl
theorem C145_nm : (Try.f145.name == "runtime.NumGoroutine") = false := by kernel_rfl
theorem C145_fn {a0 a1 : AV} {H : Heap} {Q : AV → Heap → Prop} (h : vc Try.prog C145 (vcEnd [.tmp 4] Q) H [a0, a1, .any, .any, .any, .any, .any, .any, .any, .any, .any, .any, .any, .any, .any]) : Runs Try.prog 145 [a0, a1] H Q :=
  @fn_go Try.prog mixed 145 Try.f145 C145 [.tmp 4] Try.func145 C145_ok C145_res C145_nm 15 Try.ntmps145 [a0, a1] [a0, a1, .any, .any, .any, .any, .any, .any, .any, .any, .any, .any, .any, .any, .any] H Q h 13 (by kernel_rfl) (by kernel_rfl)

/-- (impl.Notice).due -/
def C144 : CC :=
 (.seq (.ops [⟨some 1, none, .box (.tmp 0)⟩,
   ⟨some 2, none, .mv (.const (.int .i64 0))⟩])
 (.seq (.ops [⟨some 3, none, .fa 1 (.tmp 1)⟩,
   ⟨some 4, none, .load false 1 (.tmp 3)⟩,
   ⟨some 5, none, .fa 2 (.tmp 1)⟩,
   ⟨some 6, none, .load false 1 (.tmp 5)⟩,
   ⟨some 7, none, .call (.func 145) [(.tmp 4), (.tmp 6)]⟩,
   ⟨some 2, none, .mv (.tmp 7)⟩])
 .ret))
theorem C144_ok : Try.f144.body.bind (comp Try.prog) = some C144 := by kernel_rfl
theorem C144_res : compRs Try.prog Try.f144.results.toList = some [.tmp 2] := by kernel_rfl
theorem C144_nm : (Try.f144.name == "runtime.NumGoroutine") = false := by kernel_rfl
theorem C144_fn {a0 : AV} {H : Heap} {Q : AV → Heap → Prop} (h : vc Try.prog C144 (vcEnd [.tmp 2] Q) H [a0, .any, .any, .any, .any, .any, .any, .any]) : Runs Try.prog 144 [a0] H Q :=
  @fn_go Try.prog mixed 144 Try.f144 C144 [.tmp 2] Try.func144 C144_ok C144_res C144_nm 8 Try.ntmps144 [a0] [a0, .any, .any, .any, .any, .any, .any, .any] H Q h 7 (by kernel_rfl) (by kernel_rfl)

/-- (impl.Notice).reminders -/
def C136 : CC :=
 (.seq (.ops [⟨some 1, none, .box (.tmp 0)⟩,
   ⟨some 2, none, .mv (.const (.slice none 0 0))⟩])
 (.seq (.ops [⟨some 4, none, .load true 4 (.tmp 1)⟩,
   ⟨some 5, none, .call (.func 144) [(.tmp 4)]⟩,
   ⟨some 3, none, .mv (.tmp 5)⟩])
 (.seq (.ops [⟨some 6, none, .mv (.tmp 3)⟩,
   ⟨some 7, none, .call (.func 145) [(.tmp 6), (.const (.int .i64 1))]⟩,
   ⟨some 8, none, .mv (.tmp 3)⟩,
   ⟨some 9, none, .call (.func 145) [(.tmp 8), (.const (.int .i64 6))]⟩,
   ⟨some 10, none, .mv (.tmp 3)⟩,
   ⟨some 11, none, .call (.func 145) [(.tmp 10), (.const (.int .i64 16))]⟩,
   ⟨some 12, none, .lit 1 [(.tmp 7), (.tmp 9), (.tmp 11)]⟩,
   ⟨some 2, none, .mv (.tmp 12)⟩])
 .ret)))
theorem C136_ok : Try.f136.body.bind (comp Try.prog) = some C136 := by kernel_rfl
theorem C136_res : compRs Try.prog Try.f136.results.toList = some [.tmp 2] := by kernel_rfl
theorem C136_nm : (Try.f136.name == "runtime.NumGoroutine") = false := by kernel_rfl
theorem C136_fn {a0 : AV} {H : Heap} {Q : AV → Heap → Prop} (h : vc Try.prog C136 (vcEnd [.tmp 2] Q) H [a0, .any, .any, .any, .any, .any, .any, .any, .any, .any, .any, .any, .any]) : Runs Try.prog 136 [a0] H Q :=
  @fn_go Try.prog mixed 136 Try.f136 C136 [.tmp 2] Try.func136 C136_ok C136_res C136_nm 13 Try.ntmps136 [a0] [a0, .any, .any, .any, .any, .any, .any, .any, .any, .any, .any, .any, .any] H Q h 12 (by kernel_rfl) (by kernel_rfl)

/-- impl.isNotice -/
def C115 : CC :=
 (.seq (.ops [⟨some 1, none, .box (.tmp 0)⟩,
   ⟨some 2, none, .mv (.const (.bool false))⟩])
 (.seq (.seq (.ops [⟨some 4, none, .fa 0 (.tmp 1)⟩,
    ⟨some 5, none, .load false 1 (.tmp 4)⟩,
    ⟨some 6, none, .call (.func 68) [(.tmp 5)]⟩,
    ⟨some 7, none, .not (.tmp 6)⟩,
    ⟨some 8, none, .mv (.tmp 7)⟩,
    ⟨some 9, some (8, false), .fa 1 (.tmp 1)⟩,
    ⟨some 10, some (8, false), .load false 1 (.tmp 9)⟩,
    ⟨some 11, some (8, false), .call (.func 134) [(.tmp 10)]⟩,
    ⟨some 12, some (8, false), .not (.tmp 11)⟩,
    ⟨some 13, none, .pick (.tmp 8) (.const (.bool true)) (.tmp 12)⟩,
    ⟨some 14, none, .mv (.tmp 13)⟩,
    ⟨some 15, some (14, false), .fa 2 (.tmp 1)⟩,
    ⟨some 16, some (14, false), .load false 1 (.tmp 15)⟩,
    ⟨some 17, some (14, false), .call (.func 69) [(.tmp 16), (.const (.int .i64 1)), (.const (.int .i64 100))]⟩,
    ⟨some 18, some (14, false), .not (.tmp 17)⟩,
    ⟨some 19, none, .pick (.tmp 14) (.const (.bool true)) (.tmp 18)⟩])
  (.cond (.tmp 19) (.seq (.ops [⟨some 2, none, .mv (.const (.bool false))⟩])
   .ret)
  .skip))
 (.seq (.ops [⟨some 20, none, .load true 4 (.tmp 1)⟩,
   ⟨some 21, none, .call (.func 135) [(.tmp 20)]⟩,
   ⟨some 22, none, .mv (.tmp 21)⟩,
   ⟨some 23, some (22, false), .fa 3 (.tmp 1)⟩,
   ⟨some 24, some (22, false), .load false 1 (.tmp 23)⟩,
   ⟨some 25, some (22, false), .call (.func 134) [(.tmp 24)]⟩,
   ⟨some 26, some (22, false), .mv (.tmp 25)⟩,
   ⟨some 27, some (26, true), .fa 3 (.tmp 1)⟩,
   ⟨some 28, some (26, true), .load false 1 (.tmp 27)⟩,
   ⟨some 29, some (26, true), .fa 1 (.tmp 1)⟩,
   ⟨some 30, some (26, true), .load false 1 (.tmp 29)⟩,
   ⟨some 31, some (26, true), .bin .geq 0 (.tmp 28) (.tmp 30)⟩,
   ⟨some 32, some (22, false), .pick (.tmp 26) (.tmp 31) (.const (.bool false))⟩,
   ⟨some 33, none, .pick (.tmp 22) (.const (.bool true)) (.tmp 32)⟩,
   ⟨some 3, none, .mv (.tmp 33)⟩])
 (.seq (.ops [⟨some 34, none, .mv (.tmp 3)⟩,
   ⟨some 35, none, .mv (.tmp 34)⟩,
   ⟨some 36, some (35, true), .load true 4 (.tmp 1)⟩,
   ⟨some 37, some (35, true), .call (.func 136) [(.tmp 36)]⟩,
   ⟨some 38, some (35, true), .ia 1 (.tmp 37) (.const (.int .i64 2))⟩,
   ⟨some 39, some (35, true), .load false 1 (.tmp 38)⟩,
   ⟨some 40, some (35, true), .call (.func 134) [(.tmp 39)]⟩,
   ⟨some 41, none, .pick (.tmp 35) (.tmp 40) (.const (.bool false))⟩,
   ⟨some 2, none, .mv (.tmp 41)⟩])
 .ret))))
theorem C115_ok : Try.f115.body.bind (comp Try.prog) = some C115 := by kernel_rfl
theorem C115_res : compRs Try.prog Try.f115.results.toList = some [.tmp 2] := by kernel_rfl
theorem C115_nm : (Try.f115.name == "runtime.NumGoroutine") = false := by kernel_rfl
theorem C115_fn {a0 : AV} {H : Heap} {Q : AV → Heap → Prop} (h : vc Try.prog C115 (vcEnd [.tmp 2] Q) H [a0, .any, .any, .any, .any, .any, .any, .any, .any, .any, .any, .any, .any, .any, .any, .any, .any, .any, .any, .any, .any, .any, .any, .any, .any, .any, .any, .any, .any, .any, .any, .any, .any, .any, .any, .any, .any, .any, .any, .any, .any, .any]) : Runs Try.prog 115 [a0] H Q :=
  @fn_go Try.prog mixed 115 Try.f115 C115 [.tmp 2] Try.func115 C115_ok C115_res C115_nm 42 Try.ntmps115 [a0] [a0, .any, .any, .any, .any, .any, .any, .any, .any, .any, .any, .any, .any, .any, .any, .any, .any, .any, .any, .any, .any, .any, .any, .any, .any, .any, .any, .any, .any, .any, .any, .any, .any, .any, .any, .any, .any, .any, .any, .any, .any, .any] H Q h 41 (by kernel_rfl) (by kernel_rfl)

/-- slices.IsSortedFunc[[]impl.Notice,impl.Notice] -/
def C116 : CC :=
 (.seq (.ops [⟨some 4, none, .mv (.const (.bool false))⟩])
 (.seq (.seq (.ops [⟨some 6, none, .mv (.tmp 0)⟩,
    ⟨some 7, none, .len false (.tmp 6)⟩,
    ⟨some 8, none, .bin .sub 0 (.tmp 7) (.const (.int .i64 1))⟩,
    ⟨some 5, none, .mv (.tmp 8)⟩])
  (.block 0 (.loop (.seq (.seq (.ops [⟨some 9, none, .mv (.tmp 5)⟩,
       ⟨some 10, none, .bin .gtr 0 (.tmp 9) (.const (.int .i64 0))⟩])
     (.cond (.tmp 10) .skip
     (.exit 0)))
    (.seq (.block 1 (.seq (.draw 12 [⟨some 13, none, .mv (.tmp 1)⟩,
        ⟨some 14, none, .mv (.tmp 0)⟩,
        ⟨some 15, none, .mv (.tmp 5)⟩,
        ⟨some 16, none, .ia 4 (.tmp 14) (.tmp 15)⟩,
        ⟨some 17, none, .load true 4 (.tmp 16)⟩,
        ⟨some 18, none, .mv (.tmp 0)⟩,
        ⟨some 19, none, .mv (.tmp 5)⟩,
        ⟨some 20, none, .bin .sub 0 (.tmp 19) (.const (.int .i64 1))⟩,
        ⟨some 21, none, .ia 4 (.tmp 18) (.tmp 20)⟩,
        ⟨some 22, none, .load true 4 (.tmp 21)⟩,
        ⟨some 23, none, .call (.tmp 13) [(.tmp 17), (.tmp 22)]⟩,
        ⟨some 24, none, .bin .lss 0 (.tmp 23) (.const (.int .i64 0))⟩])
      (.cond (.tmp 24) (.seq (.ops [⟨some 4, none, .mv (.const (.bool false))⟩])
       .ret)
      .skip)))
    (.ops [⟨some 11, none, .mv (.tmp 5)⟩,
     ⟨some 12, none, .bin .sub 0 (.tmp 11) (.const (.int .i64 1))⟩,
     ⟨some 5, none, .mv (.tmp 12)⟩]))))))
 (.seq (.ops [⟨some 4, none, .mv (.const (.bool true))⟩])
 .ret)))
theorem C116_ok : Try.f116.body.bind (comp Try.prog) = some C116 := by kernel_rfl
theorem C116_res : compRs Try.prog Try.f116.results.toList = some [.tmp 4] := by kernel_rfl
theorem C116_nm : (Try.f116.name == "runtime.NumGoroutine") = false := by kernel_rfl
theorem C116_fn {a0 a1 : AV} {H : Heap} {Q : AV → Heap → Prop} (h : vc Try.prog C116 (vcEnd [.tmp 4] Q) H [a0, a1, .any, .any, .any, .any, .any, .any, .any, .any, .any, .any, .any, .any, .any, .any, .any, .any, .any, .any, .any, .any, .any, .any, .any]) : Runs Try.prog 116 [a0, a1] H Q :=
  @fn_go Try.prog mixed 116 Try.f116 C116 [.tmp 4] Try.func116 C116_ok C116_res C116_nm 25 Try.ntmps116 [a0, a1] [a0, a1, .any, .any, .any, .any, .any, .any, .any, .any, .any, .any, .any, .any, .any, .any, .any, .any, .any, .any, .any, .any, .any, .any, .any] H Q h 23 (by kernel_rfl) (by kernel_rfl)

/-- impl.IsDiary$1 -/
def C117 : CC :=
 (.seq (.ops [⟨some 2, none, .box (.tmp 0)⟩,
   ⟨some 3, none, .box (.tmp 1)⟩,
   ⟨some 4, none, .mv (.const (.int .i64 0))⟩])
 (.seq (.ops [⟨some 5, none, .fa 1 (.tmp 2)⟩,
   ⟨some 6, none, .load false 1 (.tmp 5)⟩,
   ⟨some 7, none, .fa 1 (.tmp 3)⟩,
   ⟨some 8, none, .load false 1 (.tmp 7)⟩,
   ⟨some 9, none, .bin .sub 0 (.tmp 6) (.tmp 8)⟩,
   ⟨some 4, none, .mv (.tmp 9)⟩])
 .ret))
theorem C117_ok : Try.f117.body.bind (comp Try.prog) = some C117 := by kernel_rfl
theorem C117_res : compRs Try.prog Try.f117.results.toList = some [.tmp 4] := by kernel_rfl
theorem C117_nm : (Try.f117.name == "runtime.NumGoroutine") = false := by kernel_rfl
theorem C117_fn {a0 a1 : AV} {H : Heap} {Q : AV → Heap → Prop} (h : vc Try.prog C117 (vcEnd [.tmp 4] Q) H [a0, a1, .any, .any, .any, .any, .any, .any, .any, .any]) : Runs Try.prog 117 [a0, a1] H Q :=
  @fn_go Try.prog mixed 117 Try.f117 C117 [.tmp 4] Try.func117 C117_ok C117_res C117_nm 10 Try.ntmps117 [a0, a1] [a0, a1, .any, .any, .any, .any, .any, .any, .any, .any] H Q h 8 (by kernel_rfl) (by kernel_rfl)

/-- impl.IsDiary -/
def C56 : CC :=
 (.seq (.ops [⟨some 2, none, .mv (.const (.bool false))⟩])
 (.seq (.seq (.ops [⟨some 3, none, .mv (.tmp 0)⟩,
    ⟨some 4, none, .len false (.tmp 3)⟩,
    ⟨some 5, none, .bin .gtr 0 (.tmp 4) (.const (.int .i64 12))⟩,
    ⟨some 6, none, .mv (.tmp 5)⟩,
    ⟨some 7, some (6, false), .mv (.tmp 0)⟩,
    ⟨some 8, some (6, false), .call (.func 114) [(.tmp 7), (.func 115)]⟩,
    ⟨some 9, some (6, false), .not (.tmp 8)⟩,
    ⟨some 10, none, .pick (.tmp 6) (.const (.bool true)) (.tmp 9)⟩])
  (.cond (.tmp 10) (.seq (.ops [⟨some 2, none, .mv (.const (.bool false))⟩])
   .ret)
  .skip))
 (.seq (.ops [⟨some 11, none, .mv (.tmp 0)⟩,
   ⟨some 12, none, .call (.func 116) [(.tmp 11), (.func 117)]⟩,
   ⟨some 2, none, .mv (.tmp 12)⟩])
 .ret)))
theorem C56_ok : Try.f56.body.bind (comp Try.prog) = some C56 := by kernel_rfl
theorem C56_res : compRs Try.prog Try.f56.results.toList = some [.tmp 2] := by kernel_rfl
theorem C56_nm : (Try.f56.name == "runtime.NumGoroutine") = false := by kernel_rfl
theorem C56_fn {a0 : AV} {H : Heap} {Q : AV → Heap → Prop} (h : vc Try.prog C56 (vcEnd [.tmp 2] Q) H [a0, .any, .any, .any, .any, .any, .any, .any, .any, .any, .any, .any, .any]) : Runs Try.prog 56 [a0] H Q :=
  @fn_go Try.prog mixed 56 Try.f56 C56 [.tmp 2] Try.func56 C56_ok C56_res C56_nm 13 Try.ntmps56 [a0] [a0, .any, .any, .any, .any, .any, .any, .any, .any, .any, .any, .any, .any] H Q h 12 (by kernel_rfl) (by kernel_rfl)

/-- laws.eqNotice -/
def C118 : CC :=
 (.seq (.ops [⟨some 2, none, .box (.tmp 0)⟩,
   ⟨some 3, none, .box (.tmp 1)⟩,
   ⟨some 4, none, .mv (.const (.bool false))⟩])
 (.seq (.seq (.ops [⟨some 5, none, .fa 0 (.tmp 2)⟩,
    ⟨some 6, none, .load false 1 (.tmp 5)⟩,
    ⟨some 7, none, .fa 0 (.tmp 3)⟩,
    ⟨some 8, none, .load false 1 (.tmp 7)⟩,
    ⟨some 9, none, .bin .neq 0 (.tmp 6) (.tmp 8)⟩])
  (.cond (.tmp 9) (.seq (.ops [⟨some 4, none, .mv (.const (.bool false))⟩])
   .ret)
  .skip))
 (.seq (.seq (.ops [⟨some 10, none, .fa 1 (.tmp 2)⟩,
    ⟨some 11, none, .load false 1 (.tmp 10)⟩,
    ⟨some 12, none, .fa 1 (.tmp 3)⟩,
    ⟨some 13, none, .load false 1 (.tmp 12)⟩,
    ⟨some 14, none, .bin .neq 0 (.tmp 11) (.tmp 13)⟩])
  (.cond (.tmp 14) (.seq (.ops [⟨some 4, none, .mv (.const (.bool false))⟩])
   .ret)
  .skip))
 (.seq (.seq (.ops [⟨some 15, none, .fa 2 (.tmp 2)⟩,
    ⟨some 16, none, .load false 1 (.tmp 15)⟩,
    ⟨some 17, none, .fa 2 (.tmp 3)⟩,
    ⟨some 18, none, .load false 1 (.tmp 17)⟩,
    ⟨some 19, none, .bin .neq 0 (.tmp 16) (.tmp 18)⟩])
  (.cond (.tmp 19) (.seq (.ops [⟨some 4, none, .mv (.const (.bool false))⟩])
   .ret)
  .skip))
 (.seq (.seq (.ops [⟨some 20, none, .fa 3 (.tmp 2)⟩,
    ⟨some 21, none, .load false 1 (.tmp 20)⟩,
    ⟨some 22, none, .fa 3 (.tmp 3)⟩,
    ⟨some 23, none, .load false 1 (.tmp 22)⟩,
    ⟨some 24, none, .bin .neq 0 (.tmp 21) (.tmp 23)⟩])
  (.cond (.tmp 24) (.seq (.ops [⟨some 4, none, .mv (.const (.bool false))⟩])
   .ret)
  .skip))
 (.seq (.ops [⟨some 4, none, .mv (.const (.bool true))⟩])
 .ret))))))
theorem C118_ok : Try.f118.body.bind (comp Try.prog) = some C118 := by kernel_rfl
theorem C118_res : compRs Try.prog Try.f118.results.toList = some [.tmp 4] := by kernel_rfl
theorem C118_nm : (Try.f118.name == "runtime.NumGoroutine") = false := by kernel_rfl
theorem C118_fn {a0 a1 : AV} {H : Heap} {Q : AV → Heap → Prop} (h : vc Try.prog C118 (vcEnd [.tmp 4] Q) H [a0, a1, .any, .any, .any, .any, .any, .any, .any, .any, .any, .any, .any, .any, .any, .any, .any, .any, .any, .any, .any, .any, .any, .any, .any]) : Runs Try.prog 118 [a0, a1] H Q :=
  @fn_go Try.prog mixed 118 Try.f118 C118 [.tmp 4] Try.func118 C118_ok C118_res C118_nm 25 Try.ntmps118 [a0, a1] [a0, a1, .any, .any, .any, .any, .any, .any, .any, .any, .any, .any, .any, .any, .any, .any, .any, .any, .any, .any, .any, .any, .any, .any, .any] H Q h 23 (by kernel_rfl) (by kernel_rfl)

/-- laws.eqNoticeS -/
def C57 : CC :=
 (.seq (.ops [⟨some 4, none, .mv (.const (.bool false))⟩])
 (.seq (.seq (.ops [⟨some 6, none, .mv (.tmp 0)⟩,
    ⟨some 7, none, .len false (.tmp 6)⟩,
    ⟨some 8, none, .mv (.tmp 1)⟩,
    ⟨some 9, none, .len false (.tmp 8)⟩,
    ⟨some 10, none, .bin .neq 0 (.tmp 7) (.tmp 9)⟩])
  (.cond (.tmp 10) (.seq (.ops [⟨some 4, none, .mv (.const (.bool false))⟩])
   .ret)
  .skip))
 (.seq (.seq (.ops [⟨some 5, none, .mv (.const (.int .i64 0))⟩])
  (.block 0 (.loop (.seq (.seq (.ops [⟨some 11, none, .mv (.tmp 5)⟩,
       ⟨some 12, none, .mv (.tmp 0)⟩,
       ⟨some 13, none, .len false (.tmp 12)⟩,
       ⟨some 14, none, .bin .lss 0 (.tmp 11) (.tmp 13)⟩])
     (.cond (.tmp 14) .skip
     (.exit 0)))
    (.seq (.block 1 (.seq (.draw 10 [⟨some 17, none, .mv (.tmp 0)⟩,
        ⟨some 18, none, .mv (.tmp 5)⟩,
        ⟨some 19, none, .ia 4 (.tmp 17) (.tmp 18)⟩,
        ⟨some 20, none, .load true 4 (.tmp 19)⟩,
        ⟨some 21, none, .mv (.tmp 1)⟩,
        ⟨some 22, none, .mv (.tmp 5)⟩,
        ⟨some 23, none, .ia 4 (.tmp 21) (.tmp 22)⟩,
        ⟨some 24, none, .load true 4 (.tmp 23)⟩,
        ⟨some 25, none, .call (.func 118) [(.tmp 20), (.tmp 24)]⟩,
        ⟨some 26, none, .not (.tmp 25)⟩])
      (.cond (.tmp 26) (.seq (.ops [⟨some 4, none, .mv (.const (.bool false))⟩])
       .ret)
      .skip)))
    (.ops [⟨some 15, none, .mv (.tmp 5)⟩,
     ⟨some 16, none, .bin .add 0 (.tmp 15) (.const (.int .i64 1))⟩,
     ⟨some 5, none, .mv (.tmp 16)⟩]))))))
 (.seq (.ops [⟨some 4, none, .mv (.const (.bool true))⟩])
 .ret))))
theorem C57_ok : Try.f57.body.bind (comp Try.prog) = some C57 := by kernel_rfl
theorem C57_res : compRs Try.prog Try.f57.results.toList = some [.tmp 4] := by kernel_rfl
theorem C57_nm : (Try.f57.name == "runtime.NumGoroutine") = false := by kernel_rfl
theorem C57_fn {a0 a1 : AV} {H : Heap} {Q : AV → Heap → Prop} (h : vc Try.prog C57 (vcEnd [.tmp 4] Q) H [a0, a1, .any, .any, .any, .any, .any, .any, .any, .any, .any, .any, .any, .any, .any, .any, .any, .any, .any, .any, .any, .any, .any, .any, .any, .any, .any]) : Runs Try.prog 57 [a0, a1] H Q :=
  @fn_go Try.prog mixed 57 Try.f57 C57 [.tmp 4] Try.func57 C57_ok C57_res C57_nm 27 Try.ntmps57 [a0, a1] [a0, a1, .any, .any, .any, .any, .any, .any, .any, .any, .any, .any, .any, .any, .any, .any, .any, .any, .any, .any, .any, .any, .any, .any, .any, .any, .any] H Q h 25 (by kernel_rfl) (by kernel_rfl)

end Go.Proofs.Ytcbijbckbloadaa
